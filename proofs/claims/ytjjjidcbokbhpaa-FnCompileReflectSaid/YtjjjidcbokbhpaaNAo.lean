/- Contracts of functions of the program, one behind the other, as plain data: what each call returns and which blocks it leaves. -/
import Derived.Test.YtjjjidcbokbhpaaNFacts
import Derived.Test.YtjjjidcbokbhpaaNAg
import Derived.Test.YtjjjidcbokbhpaaNAi
import Derived.Test.YtjjjidcbokbhpaaNAj
import Derived.Test.YtjjjidcbokbhpaaNAm
import Derived.Test.YtjjjidcbokbhpaaNAn
import Derived.Test.YtjjjidcbokbhpaaNAk
import Derived.Test.YtjjjidcbokbhpaaNAl
set_option linter.unusedVariables false
set_option linter.unusedSimpArgs false
set_option maxHeartbeats 16000000
set_option maxRecDepth 100000
namespace Go.Proofs.Ytjjjidcbokbhpaa.CtD
open Go Go.CT CtF CtR

theorem stmtOK_len {p q : Pg} (h1 : q.vars.length = p.vars.length) (h2 : q.arrays.length = p.arrays.length) : ∀ (d : Nat) (s : St1), stmtOK q d s = stmtOK p d s := by
  have hsh : ∀ (d : Nat) (e : Ex), CtR.shape q d e = CtR.shape p d e := by
    have hlim : ∀ k, limit q k = limit p k := fun k => by simp only [limit, h1, h2]
    intro d
    induction d with
    | zero => intro e; rfl
    | succ d ih =>
      intro e
      obtain ⟨k, v, ks⟩ := e
      have he : CtR.shape q d = CtR.shape p d := funext ih
      simp only [CtR.shape, fitsE, hlim, he]
  have hr : ∀ e, right q e = right p e := fun e => by simp only [right, hsh]
  intro d
  induction d with
  | zero => intro s; rfl
  | succ d ih =>
    intro s
    obtain ⟨k, t, ix, v, c, b, e⟩ := s
    have h3 : ∀ l : List St1, l.all (stmtOK q d) = l.all (stmtOK p d) := fun l => by congr 1; funext s; exact ih s
    simp only [stmtOK, headOK, hr, h1, h2, h3]
theorem DrP.up {p q : Pg} (h : DrP p) (h1 : CtR.Up p.vars q.vars) (h2 : CtR.Up p.arrays q.arrays) (h3 : q.body = p.body) : DrP q := by
  refine ⟨?_, by rw [h1.len]; exact h.nv, by rw [h2.len]; exact h.na, by rw [h3]; exact h.nb, by rw [h3]; exact h.sm⟩
  have hok := h.ok
  simp only [progOK, headsOK, Bool.and_eq_true, decide_eq_true_eq] at hok ⊢
  have hst : (stmtOK q 5) = stmtOK p 5 := funext fun s => stmtOK_len h1.len h2.len 5 s
  refine ⟨⟨?_, by rw [h3, hst]; exact hok.1.2⟩, by rw [h3]; exact hok.2⟩
  have hl : ∀ l : List Int, lab3 l → labs l = true := fun l hl => by
    simp only [labs, List.all_eq_true, Bool.and_eq_true, decide_eq_true_eq]
    exact hl
  obtain ⟨⟨⟨⟨g1, g2⟩, g3⟩, g4⟩, g5⟩ := hok.1.1
  rw [h1.len, h2.len]
  exact ⟨⟨⟨⟨g1, g2⟩, g3⟩, hl _ h1.lab⟩, hl _ h2.lab⟩
end Go.Proofs.Ytjjjidcbokbhpaa.CtD

namespace Go.Proofs.Ytjjjidcbokbhpaa.CtD
open Go Go.CT CtF CtR

structure LowV {α : Type} (β : Nat) (ls : List Int) (a a' : List α) : Prop where
  len : a'.length = a.length
  eq : ∀ (j : Nat) (x : Int), ls[j]? = some x → x.toNat.testBit β = false → a[j]? = a'[j]?
theorem LowV.refl {α : Type} (β : Nat) (ls : List Int) (a : List α) : LowV β ls a a := ⟨rfl, fun _ _ _ _ => rfl⟩
theorem LowV.set {α : Type} {β : Nat} {ls : List Int} {a a' : List α} (h : LowV β ls a a') {i : Nat} {x : Int} (hx : ls[i]? = some x) (hb : x.toNat.testBit β = true) (v : α) : LowV β ls a (a'.set i v) :=
  ⟨by rw [List.length_set, h.len], fun j y hy hf => by
    rw [List.getElem?_set]
    by_cases e : i = j
    · subst e; rw [hx] at hy; cases hy; rw [hb] at hf; cases hf
    · rw [if_neg e]; exact h.eq j y hy hf⟩
theorem rng_set {l : List Int} (h : ∀ y ∈ l, 0 ≤ y ∧ y ≤ 255) {i : Nat} {v : Int} (hv : 0 ≤ v ∧ v ≤ 255) : ∀ y ∈ l.set i v, 0 ≤ y ∧ y ≤ 255 := fun y hy => by
  rcases List.mem_or_eq_of_mem_set hy with h1 | rfl
  · exact h y h1
  · exact hv
def seR (β : Nat) (p : Pg) (m : Mm) (bs : List Int) (n : Nat) (r : D) (h : List (Option (List C))) : Prop := ∃ m' : Mm, r = .agg m'.cells ∧ MemFits p m' ∧ LowM β p m m' ∧ rdL bs n 30 h
theorem bitB {β : Nat} {bit : Int} (hβ : (β = 0 ∧ bit = 1) ∨ (β = 1 ∧ bit = 2)) {T : Nat} (hT : T ≤ 3) : ∃ b : Bool, T.testBit β = b ∧ ((((T &&& bit.toNat : Nat) : Int) = 0) = (b = false)) ∧ ((((T &&& bit.toNat : Nat) : Int) != 0) = b) := by
  rcases hβ with ⟨rfl, rfl⟩ | ⟨rfl, rfl⟩ <;> rcases le3 hT with rfl | rfl | rfl | rfl <;> refine ⟨_, rfl, ?_, ?_⟩ <;> decide

theorem secrets (bs : List Int) (n : Nat) (p : Pg) (m : Mm) (hb : Fits .u8 bs) (hl : bs.length ≤ 2000) (hn : n ≤ 274877906944) (hm : MemFits p m) (h1 : lab3 p.vars) (h2 : lab3 p.arrays) (β : Nat) (bit : Int) (hβ : (β = 0 ∧ bit = 1) ∨ (β = 1 ∧ bit = 2)) :
    DC Try.prog 28 [.c (.ptr 0 0), .agg p.cells, .agg m.cells, DI .i64 bit] [some (rdr bs n)] (seR β p m bs n) := by
  have hmx := mx_eq
  have hval := fun n h => l3Value bs n hb hl h
  have hcp := l3Copy m (by have := hm.nv; have := hm.nv12; omega) (by have := hm.na; have := hm.na2; omega) (fun a h => (hm.arr a h).1)
  have hbv : ∀ x : Int, 0 ≤ x ∧ x ≤ 3 → ∃ T : Nat, T ≤ 3 ∧ x = (T : Int) := fun x hx => ⟨x.toNat, by omega, by omega⟩
  have hbit0 : 0 ≤ bit ∧ bit ≤ 2 := by omega
  generalize hR : seR β p m bs n = R
  unfold memB at hcp
  have hnv := hm.nv
  have hna := hm.na
  have hnv12 := hm.nv12
  have hna2 := hm.na2
  have hva := hm.val
  have har := hm.arr
  obtain ⟨vs, ar, bd⟩ := p
  obtain ⟨va, arr⟩ := m
  simp only at hnv hna hnv12 hna2 hva har h1 h2
  refine dcZ Try.func28 ?_
  simp (maxSteps := 9999999) only [go_sem, Mm.cells, rdr]
  ((try (refine drvZ Try.func28 ?_; simp (maxSteps := 9999999) only [go_sem, Mm.cells, rdr])); (try ((with_reducible refine And.intro ?_ ?_) <;> (repeat' with_reducible apply And.intro) <;> try exact sd)))
  refine XK.callG [] hcp ok64 (fun i' x h => by simp at h) (hbT ()) (fun d h' ⟨_, e⟩ => by subst e; simp) ?_
  rintro _ _ ⟨rfl, rfl⟩ _
  iterate 3 ((try (refine drvZ Try.func28 ?_; simp (maxSteps := 9999999) only [go_sem, renCs_I, renCs_hdr, renCs_b0, renCs_b1, rdr])); (try ((with_reducible refine And.intro ?_ ?_) <;> (repeat' with_reducible apply And.intro) <;> try exact sd)))
  refine Go.loopQ (fun x : Nat × Nat × List Int => [(0, .c (.ptr 0 0)), (3, DI .i64 bit), (5, .c (.ptr 1 0)), (8, .c (.ptr 129 0)), (9, .c (.ptr 321 0)), (10, DI .i64 x.1)])
    (fun x => [(0, some (rdr bs x.2.1)), (1, some (Pg.cells ⟨vs, ar, bd⟩)), (129, some [.v (.slice none 0 0), .v (.slice none 0 0)]), (257, some (x.2.2.map I64)), (258, some (hdr 259 260 arr.length)), (259, some (blk0 arr)), (260, some (blk1 arr)), (321, some [.msl 257 1 0 va.length, .msl 258 1 0 arr.length])])
    4096 (fun x => x.1 ≤ vs.length ∧ n ≤ x.2.1 ∧ x.2.1 ≤ n + x.1 ∧ (∀ y ∈ x.2.2, 0 ≤ y ∧ y ≤ 255) ∧ LowV β vs va x.2.2) (fun x => vs.length - x.1) ?_ (0, n, va) some [] _ ⟨Nat.zero_le _, Nat.le_refl _, Nat.le_refl _, hva, .refl _ _ _⟩ ?_
  · rintro ⟨i, pos, S⟩ ⟨hi1, hi2, hi3, hi4, hi5⟩ again
    simp only at hi1 hi2 hi3 hi4 hi5
    have hSl := hi5.len
    rcases Nat.lt_or_ge i vs.length with hlt | hge
    · obtain ⟨x, hx⟩ : ∃ x, vs[i]? = some x := ⟨vs[i], by simp [hlt]⟩
      obtain ⟨T, hT, rfl⟩ := hbv x (h1 x (List.mem_of_getElem? hx))
      have hlt2 : i < va.length := by omega
      obtain ⟨bb, hb1, hb2, hb3⟩ := bitB hβ hT
      cases bb with
      | false =>
        refine drvL Try.func28 ?_
        simp (maxSteps := 9999999) only [go_sem, rdr, hlt, hlt2]
        iterate 5 ((try (refine drvZ Try.func28 ?_; simp (maxSteps := 9999999) only [go_sem, rdr, hlt, hlt2, hx, hb2, hb3])); (try ((with_reducible refine And.intro ?_ ?_) <;> (repeat' with_reducible apply And.intro) <;> try exact sd)))
        refine again (i + 1, pos, S) some [] _ ⟨hlt, hi2, (show pos ≤ n + (i + 1) by omega), hi4, hi5⟩ (show vs.length - (i + 1) < vs.length - i by omega) ?_
        simp (maxSteps := 9999999) only [go_sem, TmOK, DM, DMs, CM, CMs, forall_eq, exists_eq_left, Mq, HpOK, LowOK, rdr]
        simp [CMs_I, CMs_hdr, CMs_b0, CMs_b1, upd]
      | true =>
        refine drvL Try.func28 ?_
        simp (maxSteps := 9999999) only [go_sem, rdr, hlt, hlt2]
        iterate 5 ((try (refine drvZ Try.func28 ?_; simp (maxSteps := 9999999) only [go_sem, rdr, hlt, hlt2, hx, hb2, hb3])); (try ((with_reducible refine And.intro ?_ ?_) <;> (repeat' with_reducible apply And.intro) <;> try exact sd)))
        refine XK.callG [0] (hval pos (by omega)) ok63 (hhp_one rfl) (hbT ()) (fun d h' ⟨_, _, _, _, _, _, e⟩ => by subst e; simp) ?_ (fun _ => ⟨by kernel_rfl, _, _, ⟨0, rfl, by omega, pos, by omega, by omega, rfl⟩, by simp⟩)
        rintro _ _ ⟨v, rfl, hv, pos', hp1, hp3, rfl⟩ _
        iterate 5 ((try (refine drvZ Try.func28 ?_; simp (maxSteps := 9999999) only [go_sem, rdr, hlt, hlt2])); (try ((with_reducible refine And.intro ?_ ?_) <;> (repeat' with_reducible apply And.intro) <;> try exact sd)))
        refine again (i + 1, pos', S.set i v) some [] _ ⟨hlt, (show n ≤ pos' by omega), (show pos' ≤ n + (i + 1) by omega), rng_set hi4 hv, hi5.set hx (by simpa using hb1) v⟩ (show vs.length - (i + 1) < vs.length - i by omega) ?_
        simp (maxSteps := 9999999) only [go_sem, TmOK, DM, DMs, CM, CMs, forall_eq, exists_eq_left, Mq, HpOK, LowOK, rdr]
        simp [CMs_I, CMs_hdr, CMs_b0, CMs_b1, upd]
        try exact CMs.kf (by rw [← List.map_set]; exact kf_I _)
    · have hn1 : ¬ i < va.length := by omega
      have hn2 : ¬ i < vs.length := by omega
      have z00 : ((0 : Int) < 0) = False := eq_false (by omega)
      have z01 : ((0 : Int) < 1) = True := eq_true (by omega)
      have z02 : ((0 : Int) < 2) = True := eq_true (by omega)
      have z12 : ((1 : Int) < 2) = True := eq_true (by omega)
      have z11 : ((1 : Int) < 1) = False := eq_false (by omega)
      have z22 : ((2 : Int) < 2) = False := eq_false (by omega)
      clear again
      have fin : ∀ (A : List (List Int)) (ps : Nat) (hp : Hp), A.length = arr.length → pos ≤ ps → ps ≤ pos + 8 → LowV β ar arr A → (∀ a ∈ A, a.length = 4 ∧ ∀ y ∈ a, 0 ≤ y ∧ y ≤ 255) → hp 0 = some (some (rdr bs ps)) → hp 257 = some (some (S.map I64)) → hp 258 = some (some (hdr 259 260 arr.length)) → hp 259 = some (some (blk0 A)) → hp 260 = some (some (blk1 A)) →
          RetOb 1 R (.agg [.msl 257 1 0 va.length, .msl 258 1 0 arr.length]) hp := fun A ps hp e1 e2 e3 e4 e5 g0 g1 g2 g3 g4 =>
        RetOb.memK (m := ⟨S, A⟩) (k2 := 259) (k3 := 260) (by simp only; omega) (by
          rw [← hR]
          exact ⟨⟨S, A⟩, rfl, ⟨by simp only; omega, by simp only; omega, hnv12, hna2, hi4, e5⟩, ⟨by simp only; omega, by simp only; omega, hi5.eq, e4.eq⟩, ps, by omega, by omega, rfl⟩) (rdr_kf bs ps) g0 g1 (by rw [g2, ← e1, hdr_hdA _ _ _ (by omega) (fun a h => (e5 a h).1)]) g3 g4 (by simp only; omega) (by simp only; omega) (by decide)
      refine drvL Try.func28 ?_
      simp (maxSteps := 9999999) only [go_sem, rdr, hn1, hn2]
      iterate 3 ((try (refine drvZ Try.func28 ?_; simp (maxSteps := 9999999) only [go_sem, rdr, hn1, hn2])); (try ((with_reducible refine And.intro ?_ ?_) <;> (repeat' with_reducible apply And.intro) <;> try exact sd)))
      rcases arr with _ | ⟨a, _ | ⟨b, _ | ⟨c, r⟩⟩⟩ <;> rcases ar with _ | ⟨l, _ | ⟨l', _ | ⟨l3, r2⟩⟩⟩ <;> simp only [List.length_cons, List.length_nil] at hna hna2 <;> (try (exfalso; omega))
      · refine Go.loop ?_
        refine drvL Try.func28 ?_
        simp (maxSteps := 9999999) only [go_sem, rdr, List.getElem?_cons_zero, List.getElem?_cons_succ, Int.natCast_zero, z01, z02, z12, z11, z22, z00]
        iterate 3 ((try (refine drvZ Try.func28 ?_; simp (maxSteps := 9999999) only [go_sem, rdr, List.getElem?_cons_zero, List.getElem?_cons_succ, Int.natCast_zero, z01, z02, z12, z11, z22, z00])); (try ((with_reducible refine And.intro ?_ ?_) <;> (repeat' with_reducible apply And.intro) <;> try exact sd)))
        exact fin [] pos _ rfl (by omega) (by omega) (.refl _ _ _) (by simp) rfl rfl rfl rfl rfl
      · obtain ⟨T0, hT0, rfl⟩ := hbv l (h2 l (by simp))
        have hT0x : ([((T0 : Nat) : Int)] : List Int)[0]? = some (T0 : Int) := rfl
        have h4a := har a (by simp)
        have hb0 : blk0 [a] = a.map I64 := rfl
        have hb1 : blk1 [a] = [] := rfl
        have hh1 : hdr 259 260 1 = [.msl 259 1 0 4] := rfl
        obtain ⟨pos0, hpos0⟩ : ∃ p, p = pos := ⟨pos, rfl⟩
        subst hpos0
        refine Go.loop ?_
        refine drvL Try.func28 ?_
        simp (maxSteps := 9999999) only [go_sem, rdr, hb0, hb1, hh1, List.getElem?_cons_zero, List.getElem?_cons_succ, Int.natCast_zero, z01, z02, z12, z11, z22, z00]
        iterate 3 ((try (refine drvZ Try.func28 ?_; simp (maxSteps := 9999999) only [go_sem, rdr, hb0, hb1, hh1, List.getElem?_cons_zero, List.getElem?_cons_succ, Int.natCast_zero, z01, z02, z12, z11, z22, z00])); (try ((with_reducible refine And.intro ?_ ?_) <;> (repeat' with_reducible apply And.intro) <;> try exact sd)))
        refine Go.loopQ (fun x : Nat × Nat × List Int => [(0, .c (.ptr 0 0)), (3, DI .i64 bit), (5, .c (.ptr 1 0)), (8, .c (.ptr 129 0)), (9, .c (.ptr 321 0)), (11, DI .i64 0), (12, DI .i64 x.1)])
          (fun x => [(0, some (rdr bs x.2.1)), (1, some (Pg.cells ⟨vs, [(T0 : Int)], bd⟩)), (129, some [.v (.slice none 0 0), .v (.slice none 0 0)]), (257, some (S.map I64)), (258, some ([.msl 259 1 0 4])), (259, some (x.2.2.map I64)), (260, some ([])), (321, some [.msl 257 1 0 va.length, .msl 258 1 0 1])])
          8192 (fun x => x.1 ≤ 4 ∧ pos0 ≤ x.2.1 ∧ x.2.1 ≤ pos0 + x.1 ∧ x.2.2.length = 4 ∧ (∀ y ∈ x.2.2, 0 ≤ y ∧ y ≤ 255) ∧ (T0.testBit β = false → x.2.2 = a)) (fun x => 4 - x.1) ?_ (0, pos0, a) some [] _ ⟨Nat.zero_le _, Nat.le_refl _, Nat.le_refl _, h4a.1, h4a.2, fun _ => rfl⟩ ?_
        · rintro ⟨k, ps, c⟩ ⟨hk1, hk2, hk3, hk4, hk5, hk6⟩ again
          simp only at hk1 hk2 hk3 hk4 hk5 hk6
          rcases Nat.lt_or_ge k 4 with hlt | hge
          · have hz : ((k : Int) < 4) = True := eq_true (by omega)
            obtain ⟨bb, hb1, hb2, hb3⟩ := bitB hβ hT0
            cases bb with
            | false =>
              refine drvL Try.func28 ?_
              simp (maxSteps := 9999999) only [go_sem, rdr, hz, List.getElem?_cons_zero, List.getElem?_cons_succ, Int.natCast_zero, z01, z02, z12, z11, z22, z00]
              iterate 5 ((try (refine drvZ Try.func28 ?_; simp (maxSteps := 9999999) only [go_sem, rdr, hz, hT0x, hb2, hb3, List.getElem?_cons_zero, List.getElem?_cons_succ, Int.natCast_zero, z01, z02, z12, z11, z22, z00])); (try ((with_reducible refine And.intro ?_ ?_) <;> (repeat' with_reducible apply And.intro) <;> try exact sd)))
              refine again (k + 1, ps, c) some [] _ ⟨hlt, hk2, (show ps ≤ pos0 + (k + 1) by omega), hk4, hk5, hk6⟩ (show 4 - (k + 1) < 4 - k by omega) ?_
              simp (maxSteps := 9999999) only [go_sem, TmOK, DM, DMs, CM, CMs, forall_eq, exists_eq_left, Mq, HpOK, LowOK, rdr]
              simp [CMs_I, CMs_hdr, CMs_b0, CMs_b1, upd]
            | true =>
              refine drvL Try.func28 ?_
              simp (maxSteps := 9999999) only [go_sem, rdr, hz, List.getElem?_cons_zero, List.getElem?_cons_succ, Int.natCast_zero, z01, z02, z12, z11, z22, z00]
              iterate 5 ((try (refine drvZ Try.func28 ?_; simp (maxSteps := 9999999) only [go_sem, rdr, hz, hT0x, hb2, hb3, List.getElem?_cons_zero, List.getElem?_cons_succ, Int.natCast_zero, z01, z02, z12, z11, z22, z00])); (try ((with_reducible refine And.intro ?_ ?_) <;> (repeat' with_reducible apply And.intro) <;> try exact sd)))
              refine XK.callG [0] (hval ps (by omega)) ok63 (hhp_one rfl) (hbT ()) (fun d h' ⟨_, _, _, _, _, _, e⟩ => by subst e; simp) ?_ (fun _ => ⟨by kernel_rfl, _, _, ⟨0, rfl, by omega, ps, by omega, by omega, rfl⟩, by simp⟩)
              rintro _ _ ⟨v, rfl, hv, ps', hp1, hp3, rfl⟩ _
              iterate 5 ((try (refine drvZ Try.func28 ?_; simp (maxSteps := 9999999) only [go_sem, rdr, hz, List.getElem?_cons_zero, List.getElem?_cons_succ, Int.natCast_zero, z01, z02, z12, z11, z22, z00, hk4])); (try ((with_reducible refine And.intro ?_ ?_) <;> (repeat' with_reducible apply And.intro) <;> try exact sd)))
              refine again (k + 1, ps', c.set k v) some [] _ ⟨hlt, (show pos0 ≤ ps' by omega), (show ps' ≤ pos0 + (k + 1) by omega), by rw [List.length_set]; exact hk4, rng_set hk5 hv, fun h => by rw [hb1] at h; cases h⟩ (show 4 - (k + 1) < 4 - k by omega) ?_
              simp (maxSteps := 9999999) only [go_sem, TmOK, DM, DMs, CM, CMs, forall_eq, exists_eq_left, Mq, HpOK, LowOK, rdr]
              simp [CMs_I, CMs_hdr, CMs_b0, CMs_b1, upd]
              try exact CMs.kf (by rw [← List.map_set]; exact kf_I _)
          · have hz : ((k : Int) < 4) = False := eq_false (by omega)
            clear again
            refine drvL Try.func28 ?_
            simp (maxSteps := 9999999) only [go_sem, rdr, hz, List.getElem?_cons_zero, List.getElem?_cons_succ, Int.natCast_zero, z01, z02, z12, z11, z22, z00]
            iterate 3 ((try (refine drvZ Try.func28 ?_; simp (maxSteps := 9999999) only [go_sem, rdr, hz, List.getElem?_cons_zero, List.getElem?_cons_succ, Int.natCast_zero, z01, z02, z12, z11, z22, z00])); (try ((with_reducible refine And.intro ?_ ?_) <;> (repeat' with_reducible apply And.intro) <;> try exact sd)))
            refine Go.inLoop ?_
            refine drvL Try.func28 ?_
            simp (maxSteps := 9999999) only [go_sem, rdr, List.getElem?_cons_zero, List.getElem?_cons_succ, Int.natCast_zero, z01, z02, z12, z11, z22, z00]
            iterate 3 ((try (refine drvZ Try.func28 ?_; simp (maxSteps := 9999999) only [go_sem, rdr, List.getElem?_cons_zero, List.getElem?_cons_succ, Int.natCast_zero, z01, z02, z12, z11, z22, z00])); (try ((with_reducible refine And.intro ?_ ?_) <;> (repeat' with_reducible apply And.intro) <;> try exact sd)))
            exact fin [c] ps _ (by simp) (by omega) (by omega) ⟨rfl, fun j x hj hf => by
              match j, hj with
              | 0, hj => simp only [List.getElem?_cons_zero, Option.some.injEq] at hj; subst hj; simp [hk6 (by simpa using hf)]
              | j + 1, hj => simp at hj⟩ (by simpa using ⟨hk4, hk5⟩) rfl rfl rfl rfl rfl
        · simp (maxSteps := 9999999) only [go_sem, TmOK, DM, DMs, CM, CMs, forall_eq, exists_eq_left, Mq, HpOK, LowOK, rdr]
          simp [CMs_I, CMs_hdr, CMs_b0, CMs_b1, upd]
      · obtain ⟨T0, hT0, rfl⟩ := hbv l (h2 l (by simp))
        obtain ⟨T1, hT1, rfl⟩ := hbv l' (h2 l' (by simp))
        have hT0x : ([((T0 : Nat) : Int), ((T1 : Nat) : Int)] : List Int)[0]? = some (T0 : Int) := rfl
        have hT1x : ([((T0 : Nat) : Int), ((T1 : Nat) : Int)] : List Int)[1]? = some (T1 : Int) := rfl
        have h4a := har a (by simp)
        have h4b := har b (by simp)
        have hb0 : blk0 [a, b] = a.map I64 := rfl
        have hb1 : blk1 [a, b] = b.map I64 := rfl
        have hh1 : hdr 259 260 2 = [.msl 259 1 0 4, .msl 260 1 0 4] := rfl
        obtain ⟨pos0, hpos0⟩ : ∃ p, p = pos := ⟨pos, rfl⟩
        subst hpos0
        refine Go.loop ?_
        refine drvL Try.func28 ?_
        simp (maxSteps := 9999999) only [go_sem, rdr, hb0, hb1, hh1, List.getElem?_cons_zero, List.getElem?_cons_succ, Int.natCast_zero, z01, z02, z12, z11, z22, z00]
        iterate 3 ((try (refine drvZ Try.func28 ?_; simp (maxSteps := 9999999) only [go_sem, rdr, hb0, hb1, hh1, List.getElem?_cons_zero, List.getElem?_cons_succ, Int.natCast_zero, z01, z02, z12, z11, z22, z00])); (try ((with_reducible refine And.intro ?_ ?_) <;> (repeat' with_reducible apply And.intro) <;> try exact sd)))
        refine Go.loopQ (fun x : Nat × Nat × List Int => [(0, .c (.ptr 0 0)), (3, DI .i64 bit), (5, .c (.ptr 1 0)), (8, .c (.ptr 129 0)), (9, .c (.ptr 321 0)), (11, DI .i64 0), (12, DI .i64 x.1)])
          (fun x => [(0, some (rdr bs x.2.1)), (1, some (Pg.cells ⟨vs, [(T0 : Int), (T1 : Int)], bd⟩)), (129, some [.v (.slice none 0 0), .v (.slice none 0 0)]), (257, some (S.map I64)), (258, some ([.msl 259 1 0 4, .msl 260 1 0 4])), (259, some (x.2.2.map I64)), (260, some (b.map I64)), (321, some [.msl 257 1 0 va.length, .msl 258 1 0 2])])
          8192 (fun x => x.1 ≤ 4 ∧ pos0 ≤ x.2.1 ∧ x.2.1 ≤ pos0 + x.1 ∧ x.2.2.length = 4 ∧ (∀ y ∈ x.2.2, 0 ≤ y ∧ y ≤ 255) ∧ (T0.testBit β = false → x.2.2 = a)) (fun x => 4 - x.1) ?_ (0, pos0, a) some [] _ ⟨Nat.zero_le _, Nat.le_refl _, Nat.le_refl _, h4a.1, h4a.2, fun _ => rfl⟩ ?_
        · rintro ⟨k, ps, c⟩ ⟨hk1, hk2, hk3, hk4, hk5, hk6⟩ again
          simp only at hk1 hk2 hk3 hk4 hk5 hk6
          rcases Nat.lt_or_ge k 4 with hlt | hge
          · have hz : ((k : Int) < 4) = True := eq_true (by omega)
            obtain ⟨bb, hb1, hb2, hb3⟩ := bitB hβ hT0
            cases bb with
            | false =>
              refine drvL Try.func28 ?_
              simp (maxSteps := 9999999) only [go_sem, rdr, hz, List.getElem?_cons_zero, List.getElem?_cons_succ, Int.natCast_zero, z01, z02, z12, z11, z22, z00]
              iterate 5 ((try (refine drvZ Try.func28 ?_; simp (maxSteps := 9999999) only [go_sem, rdr, hz, hT0x, hb2, hb3, List.getElem?_cons_zero, List.getElem?_cons_succ, Int.natCast_zero, z01, z02, z12, z11, z22, z00])); (try ((with_reducible refine And.intro ?_ ?_) <;> (repeat' with_reducible apply And.intro) <;> try exact sd)))
              refine again (k + 1, ps, c) some [] _ ⟨hlt, hk2, (show ps ≤ pos0 + (k + 1) by omega), hk4, hk5, hk6⟩ (show 4 - (k + 1) < 4 - k by omega) ?_
              simp (maxSteps := 9999999) only [go_sem, TmOK, DM, DMs, CM, CMs, forall_eq, exists_eq_left, Mq, HpOK, LowOK, rdr]
              simp [CMs_I, CMs_hdr, CMs_b0, CMs_b1, upd]
            | true =>
              refine drvL Try.func28 ?_
              simp (maxSteps := 9999999) only [go_sem, rdr, hz, List.getElem?_cons_zero, List.getElem?_cons_succ, Int.natCast_zero, z01, z02, z12, z11, z22, z00]
              iterate 5 ((try (refine drvZ Try.func28 ?_; simp (maxSteps := 9999999) only [go_sem, rdr, hz, hT0x, hb2, hb3, List.getElem?_cons_zero, List.getElem?_cons_succ, Int.natCast_zero, z01, z02, z12, z11, z22, z00])); (try ((with_reducible refine And.intro ?_ ?_) <;> (repeat' with_reducible apply And.intro) <;> try exact sd)))
              refine XK.callG [0] (hval ps (by omega)) ok63 (hhp_one rfl) (hbT ()) (fun d h' ⟨_, _, _, _, _, _, e⟩ => by subst e; simp) ?_ (fun _ => ⟨by kernel_rfl, _, _, ⟨0, rfl, by omega, ps, by omega, by omega, rfl⟩, by simp⟩)
              rintro _ _ ⟨v, rfl, hv, ps', hp1, hp3, rfl⟩ _
              iterate 5 ((try (refine drvZ Try.func28 ?_; simp (maxSteps := 9999999) only [go_sem, rdr, hz, List.getElem?_cons_zero, List.getElem?_cons_succ, Int.natCast_zero, z01, z02, z12, z11, z22, z00, hk4])); (try ((with_reducible refine And.intro ?_ ?_) <;> (repeat' with_reducible apply And.intro) <;> try exact sd)))
              refine again (k + 1, ps', c.set k v) some [] _ ⟨hlt, (show pos0 ≤ ps' by omega), (show ps' ≤ pos0 + (k + 1) by omega), by rw [List.length_set]; exact hk4, rng_set hk5 hv, fun h => by rw [hb1] at h; cases h⟩ (show 4 - (k + 1) < 4 - k by omega) ?_
              simp (maxSteps := 9999999) only [go_sem, TmOK, DM, DMs, CM, CMs, forall_eq, exists_eq_left, Mq, HpOK, LowOK, rdr]
              simp [CMs_I, CMs_hdr, CMs_b0, CMs_b1, upd]
              try exact CMs.kf (by rw [← List.map_set]; exact kf_I _)
          · have hz : ((k : Int) < 4) = False := eq_false (by omega)
            clear again
            refine drvL Try.func28 ?_
            simp (maxSteps := 9999999) only [go_sem, rdr, hz, List.getElem?_cons_zero, List.getElem?_cons_succ, Int.natCast_zero, z01, z02, z12, z11, z22, z00]
            iterate 3 ((try (refine drvZ Try.func28 ?_; simp (maxSteps := 9999999) only [go_sem, rdr, hz, List.getElem?_cons_zero, List.getElem?_cons_succ, Int.natCast_zero, z01, z02, z12, z11, z22, z00])); (try ((with_reducible refine And.intro ?_ ?_) <;> (repeat' with_reducible apply And.intro) <;> try exact sd)))
            obtain ⟨A0, hA⟩ : ∃ A0, A0 = c := ⟨c, rfl⟩
            rw [← hA] at hk4 hk5 hk6 ⊢
            obtain ⟨pos1, hps⟩ : ∃ p, p = ps := ⟨ps, rfl⟩
            rw [← hps] at hk2 hk3 ⊢
            have h4A : A0.length = 4 ∧ ∀ y ∈ A0, 0 ≤ y ∧ y ≤ 255 := ⟨hk4, hk5⟩
            have hA0 := hk6
            have hq1 : pos0 ≤ pos1 := hk2
            have hq2 : pos1 ≤ pos0 + 4 := by omega
            clear hk1 hk2 hk3 hk4 hk5 hk6 hz hge hA hps
            refine Go.inLoop ?_
            refine drvL Try.func28 ?_
            simp (maxSteps := 9999999) only [go_sem, rdr, List.getElem?_cons_zero, List.getElem?_cons_succ, Int.natCast_zero, z01, z02, z12, z11, z22, z00]
            iterate 3 ((try (refine drvZ Try.func28 ?_; simp (maxSteps := 9999999) only [go_sem, rdr, List.getElem?_cons_zero, List.getElem?_cons_succ, Int.natCast_zero, z01, z02, z12, z11, z22, z00])); (try ((with_reducible refine And.intro ?_ ?_) <;> (repeat' with_reducible apply And.intro) <;> try exact sd)))
            refine Go.loopQ (fun x : Nat × Nat × List Int => [(0, .c (.ptr 0 0)), (3, DI .i64 bit), (5, .c (.ptr 1 0)), (8, .c (.ptr 129 0)), (9, .c (.ptr 321 0)), (11, DI .i64 1), (12, DI .i64 x.1)])
              (fun x => [(0, some (rdr bs x.2.1)), (1, some (Pg.cells ⟨vs, [(T0 : Int), (T1 : Int)], bd⟩)), (129, some [.v (.slice none 0 0), .v (.slice none 0 0)]), (257, some (S.map I64)), (258, some ([.msl 259 1 0 4, .msl 260 1 0 4])), (259, some (A0.map I64)), (260, some (x.2.2.map I64)), (321, some [.msl 257 1 0 va.length, .msl 258 1 0 2])])
              12288 (fun x => x.1 ≤ 4 ∧ pos1 ≤ x.2.1 ∧ x.2.1 ≤ pos1 + x.1 ∧ x.2.2.length = 4 ∧ (∀ y ∈ x.2.2, 0 ≤ y ∧ y ≤ 255) ∧ (T1.testBit β = false → x.2.2 = b)) (fun x => 4 - x.1) ?_ (0, pos1, b) some [] _ ⟨Nat.zero_le _, Nat.le_refl _, Nat.le_refl _, h4b.1, h4b.2, fun _ => rfl⟩ ?_
            · rintro ⟨k, ps, c⟩ ⟨hk1, hk2, hk3, hk4, hk5, hk6⟩ again
              simp only at hk1 hk2 hk3 hk4 hk5 hk6
              rcases Nat.lt_or_ge k 4 with hlt | hge
              · have hz : ((k : Int) < 4) = True := eq_true (by omega)
                obtain ⟨bb, hb1, hb2, hb3⟩ := bitB hβ hT1
                cases bb with
                | false =>
                  refine drvL Try.func28 ?_
                  simp (maxSteps := 9999999) only [go_sem, rdr, hz, List.getElem?_cons_zero, List.getElem?_cons_succ, Int.natCast_zero, z01, z02, z12, z11, z22, z00]
                  iterate 5 ((try (refine drvZ Try.func28 ?_; simp (maxSteps := 9999999) only [go_sem, rdr, hz, hT1x, hb2, hb3, List.getElem?_cons_zero, List.getElem?_cons_succ, Int.natCast_zero, z01, z02, z12, z11, z22, z00])); (try ((with_reducible refine And.intro ?_ ?_) <;> (repeat' with_reducible apply And.intro) <;> try exact sd)))
                  refine again (k + 1, ps, c) some [] _ ⟨hlt, hk2, (show ps ≤ pos1 + (k + 1) by omega), hk4, hk5, hk6⟩ (show 4 - (k + 1) < 4 - k by omega) ?_
                  simp (maxSteps := 9999999) only [go_sem, TmOK, DM, DMs, CM, CMs, forall_eq, exists_eq_left, Mq, HpOK, LowOK, rdr]
                  simp [CMs_I, CMs_hdr, CMs_b0, CMs_b1, upd]
                | true =>
                  refine drvL Try.func28 ?_
                  simp (maxSteps := 9999999) only [go_sem, rdr, hz, List.getElem?_cons_zero, List.getElem?_cons_succ, Int.natCast_zero, z01, z02, z12, z11, z22, z00]
                  iterate 5 ((try (refine drvZ Try.func28 ?_; simp (maxSteps := 9999999) only [go_sem, rdr, hz, hT1x, hb2, hb3, List.getElem?_cons_zero, List.getElem?_cons_succ, Int.natCast_zero, z01, z02, z12, z11, z22, z00])); (try ((with_reducible refine And.intro ?_ ?_) <;> (repeat' with_reducible apply And.intro) <;> try exact sd)))
                  refine XK.callG [0] (hval ps (by omega)) ok63 (hhp_one rfl) (hbT ()) (fun d h' ⟨_, _, _, _, _, _, e⟩ => by subst e; simp) ?_ (fun _ => ⟨by kernel_rfl, _, _, ⟨0, rfl, by omega, ps, by omega, by omega, rfl⟩, by simp⟩)
                  rintro _ _ ⟨v, rfl, hv, ps', hp1, hp3, rfl⟩ _
                  iterate 5 ((try (refine drvZ Try.func28 ?_; simp (maxSteps := 9999999) only [go_sem, rdr, hz, List.getElem?_cons_zero, List.getElem?_cons_succ, Int.natCast_zero, z01, z02, z12, z11, z22, z00, hk4])); (try ((with_reducible refine And.intro ?_ ?_) <;> (repeat' with_reducible apply And.intro) <;> try exact sd)))
                  refine again (k + 1, ps', c.set k v) some [] _ ⟨hlt, (show pos1 ≤ ps' by omega), (show ps' ≤ pos1 + (k + 1) by omega), by rw [List.length_set]; exact hk4, rng_set hk5 hv, fun h => by rw [hb1] at h; cases h⟩ (show 4 - (k + 1) < 4 - k by omega) ?_
                  simp (maxSteps := 9999999) only [go_sem, TmOK, DM, DMs, CM, CMs, forall_eq, exists_eq_left, Mq, HpOK, LowOK, rdr]
                  simp [CMs_I, CMs_hdr, CMs_b0, CMs_b1, upd]
                  try exact CMs.kf (by rw [← List.map_set]; exact kf_I _)
              · have hz : ((k : Int) < 4) = False := eq_false (by omega)
                clear again
                refine drvL Try.func28 ?_
                simp (maxSteps := 9999999) only [go_sem, rdr, hz, List.getElem?_cons_zero, List.getElem?_cons_succ, Int.natCast_zero, z01, z02, z12, z11, z22, z00]
                iterate 3 ((try (refine drvZ Try.func28 ?_; simp (maxSteps := 9999999) only [go_sem, rdr, hz, List.getElem?_cons_zero, List.getElem?_cons_succ, Int.natCast_zero, z01, z02, z12, z11, z22, z00])); (try ((with_reducible refine And.intro ?_ ?_) <;> (repeat' with_reducible apply And.intro) <;> try exact sd)))
                refine Go.inLoop ?_
                refine drvL Try.func28 ?_
                simp (maxSteps := 9999999) only [go_sem, rdr, List.getElem?_cons_zero, List.getElem?_cons_succ, Int.natCast_zero, z01, z02, z12, z11, z22, z00]
                iterate 3 ((try (refine drvZ Try.func28 ?_; simp (maxSteps := 9999999) only [go_sem, rdr, List.getElem?_cons_zero, List.getElem?_cons_succ, Int.natCast_zero, z01, z02, z12, z11, z22, z00])); (try ((with_reducible refine And.intro ?_ ?_) <;> (repeat' with_reducible apply And.intro) <;> try exact sd)))
                exact fin [A0, c] ps _ rfl (by omega) (by omega) ⟨rfl, fun j x hj hf => by
                  match j, hj with
                  | 0, hj => simp only [List.getElem?_cons_zero, Option.some.injEq] at hj; subst hj; simp [hA0 (by simpa using hf)]
                  | 1, hj => simp only [List.getElem?_cons_zero, List.getElem?_cons_succ, Option.some.injEq] at hj; subst hj; simp [hk6 (by simpa using hf)]
                  | j + 2, hj => simp at hj⟩ (by simp only [List.mem_cons, List.not_mem_nil, or_false, forall_eq_or_imp, forall_eq]; exact ⟨h4A, hk4, hk5⟩) rfl rfl rfl rfl rfl
            · simp (maxSteps := 9999999) only [go_sem, TmOK, DM, DMs, CM, CMs, forall_eq, exists_eq_left, Mq, HpOK, LowOK, rdr]
              simp [CMs_I, CMs_hdr, CMs_b0, CMs_b1, upd]
        · simp (maxSteps := 9999999) only [go_sem, TmOK, DM, DMs, CM, CMs, forall_eq, exists_eq_left, Mq, HpOK, LowOK, rdr]
          simp [CMs_I, CMs_hdr, CMs_b0, CMs_b1, upd]
  · simp (maxSteps := 9999999) only [go_sem, TmOK, DM, DMs, CM, CMs, forall_eq, exists_eq_left, Mq, HpOK, LowOK, rdr]
    simp [CMs_I, CMs_hdr, CMs_b0, CMs_b1, upd]
end Go.Proofs.Ytjjjidcbokbhpaa.CtD

namespace Go.Proofs.Ytjjjidcbokbhpaa.CtD
open Go Go.CT CtF CtR

def trR (β : Nat) (r : D) (h : List (Option (List C))) : Prop := ∃ (p : Pg) (m m' : Mm), r = .tup [.agg p.cells, .agg m.cells, .agg m'.cells] ∧ DrP p ∧ MemFits p m ∧ MemFits p m' ∧ LowM β p m m' ∧ h = []

end Go.Proofs.Ytjjjidcbokbhpaa.CtD

namespace Go.Proofs.Ytjjjidcbokbhpaa.CtR
open Go Go.CT CtF

end Go.Proofs.Ytjjjidcbokbhpaa.CtR

namespace Go.Proofs.Ytjjjidcbokbhpaa.CtR
open Go Go.CT CtF

end Go.Proofs.Ytjjjidcbokbhpaa.CtR

namespace Go.Proofs.Ytjjjidcbokbhpaa.CtR
open Go Go.CT CtF

/-! A checked program's dependencies keep to its labels. -/
end Go.Proofs.Ytjjjidcbokbhpaa.CtR

namespace Go.Proofs.Ytjjjidcbokbhpaa.CtL
open Go Go.CT CtF CtR


/-! Plain: linearization. -/
def e0 : Ex := .mk 0 0 []
/-! Shapes. -/
theorem shape_of {p : Pg} {d : Nat} {k v : Int} {ks : List Ex} (h1 : fitsE p k v ks.length = true) (h2 : ∀ x ∈ ks, CtR.shape p d x = true) (h3 : k = 3 → headAtom ks = true) : CtR.shape p (d + 1) (.mk k v ks) = true := by
  simp only [CtR.shape, Bool.and_eq_true, List.all_eq_true, Bool.or_eq_true]
  refine ⟨⟨h1, h2⟩, ?_⟩
  by_cases hk : k = 3
  · exact .inr (h3 hk)
  · exact .inl (by simpa using hk)
theorem read_kid {p : Pg} {d : Nat} {v : Int} {ks : List Ex} (h : CtR.shape p (d + 1) (.mk 3 v ks) = true) : ∃ a, ks = [a] ∧ CtR.shape p d a = true ∧ atom a = true ∧ 0 ≤ v ∧ v < p.arrays.length := by
  obtain ⟨g1, g2, g3⟩ := shape_succ h
  obtain ⟨_, b, c, e⟩ := fits_len g1
  have g3 := g3 rfl
  match ks, b, g2, g3 with
  | [a], _, g2, g3 => exact ⟨a, rfl, g2 a (by simp), g3, c, by simpa [limit] using e⟩
  | [], b, _, _ => simp [arity] at b
  | _ :: _ :: r, b, _, _ => simp [arity] at b; omega
theorem atom_mk {p : Pg} {d : Nat} {a : Ex} (hs : CtR.shape p d a = true) (ha : atom a = true) : ∃ k v, a = .mk k v [] ∧ (k = 1 ∧ 0 ≤ v ∧ v ≤ 255 ∨ k = 2 ∧ 0 ≤ v ∧ v < p.vars.length) := by
  match d, a, hs with
  | 0, _, hs => simp [CtR.shape] at hs
  | d + 1, .mk k v ks, hs =>
    obtain ⟨g1, g2, g3⟩ := shape_succ hs
    obtain ⟨_, b, c, e⟩ := fits_len g1
    have hk : k = 1 ∨ k = 2 := by simpa [atom, Ex.kind] using ha
    refine ⟨k, v, ?_, ?_⟩
    · have : ks.length = 0 := by rcases hk with rfl | rfl <;> simp [arity] at b <;> simpa using b
      rw [List.length_eq_zero_iff.1 this]
    · rcases hk with rfl | rfl
      · exact .inl ⟨rfl, c, by simp [limit] at e; omega⟩
      · exact .inr ⟨rfl, c, by simpa [limit] using e⟩
/-! Memories that agree on the first variables. -/
/-! What the printed expressions are worth. -/
/-! Expressions. -/
end Go.Proofs.Ytjjjidcbokbhpaa.CtL

namespace Go.Proofs.Ytjjjidcbokbhpaa.CtL
open Go Go.CT CtF CtR


/-! Plain: folding of expressions. -/
/-- A valid expression's forms. -/
theorem shape_form {p : Pg} {d : Nat} {k v : Int} {ks : List Ex} (h : CtR.shape p (d + 1) (.mk k v ks) = true) :
    ((k = 1 ∧ 0 ≤ v ∧ v < 256 ∨ k = 2) ∧ ks = []) ∨ (∃ a, k = 3 ∧ ks = [a] ∧ CtR.shape p d a = true ∧ atom a = true) ∨ (∃ a b, 4 ≤ k ∧ k ≤ 10 ∧ ks = [a, b] ∧ CtR.shape p d a = true ∧ CtR.shape p d b = true)
    ∨ (∃ a b c, k = 11 ∧ ks = [a, b, c] ∧ CtR.shape p d a = true ∧ CtR.shape p d b = true ∧ CtR.shape p d c = true) := by
  obtain ⟨g1, g2, g3⟩ := shape_succ h
  obtain ⟨_, b, c, e⟩ := fits_len g1
  by_cases k1 : k = 1 ∨ k = 2
  · left
    have : ks.length = 0 := by rcases k1 with rfl | rfl <;> simp [arity] at b <;> simpa using b
    refine ⟨?_, List.length_eq_zero_iff.1 this⟩
    rcases k1 with rfl | rfl
    · exact .inl ⟨rfl, c, by simpa [limit] using e⟩
    · exact .inr rfl
  by_cases k3 : k = 3
  · subst k3
    obtain ⟨a, h1, h2, h3, _⟩ := read_kid h
    exact .inr (.inl ⟨a, rfl, h1, h2, h3⟩)
  by_cases k4 : 4 ≤ k ∧ k ≤ 10
  · have : ks.length = 2 := by
      have : arity k = 2 := by unfold arity; rw [if_neg k1, if_neg k3, if_pos k4]
      omega
    match ks, this with
    | [x, y], _ => exact .inr (.inr (.inl ⟨x, y, k4.1, k4.2, rfl, g2 x (by simp), g2 y (by simp)⟩))
  by_cases k11 : k = 11
  · subst k11
    have : ks.length = 3 := by simp [arity] at b; omega
    match ks, this with
    | [x, y, z], _ => exact .inr (.inr (.inr ⟨x, y, z, rfl, rfl, g2 x (by simp), g2 y (by simp), g2 z (by simp)⟩))
  · have : arity k = -1 := by unfold arity; rw [if_neg k1, if_neg k3, if_neg k4, if_neg k11]
    omega
end Go.Proofs.Ytjjjidcbokbhpaa.CtL

namespace Go.Proofs.Ytjjjidcbokbhpaa.CtL
open Go Go.CT CtF CtR


/-! Plain: folding of statements. -/
/-! Runs. -/
def prj (l : List Ev) : List Ev := l.filter fun e => decide (2 ≤ e.kind) && decide (e.kind ≤ 4)
theorem prj_app (a b : List Ev) : prj (a ++ b) = prj a ++ prj b := by simp [prj]
end Go.Proofs.Ytjjjidcbokbhpaa.CtL

namespace Go.Proofs.Ytjjjidcbokbhpaa.CtL
open Go Go.CT CtF CtR


/-! Plain: a linearized program does what the program does. -/
def Ext (p : Pg) (vs : List Int) : Prop := ∃ w, vs = p.vars ++ w
theorem Ext.more {p : Pg} {vs ws : List Int} (h : Ext p vs) (h2 : ∃ w, ws = vs ++ w) : Ext p ws := by
  obtain ⟨a, rfl⟩ := h
  obtain ⟨b, rfl⟩ := h2
  exact ⟨a ++ b, by simp⟩
theorem Ext.le {p : Pg} {vs : List Int} (h : Ext p vs) : p.vars.length ≤ vs.length := by
  obtain ⟨a, rfl⟩ := h
  simp
/-! Writing. -/
end Go.Proofs.Ytjjjidcbokbhpaa.CtL

namespace Go.Proofs.Ytjjjidcbokbhpaa.CtL
open Go Go.CT CtF CtR


end Go.Proofs.Ytjjjidcbokbhpaa.CtL

namespace Go.Proofs.Ytjjjidcbokbhpaa.CtL
open Go Go.CT CtF CtR


/-! Plain: a linearized program is constant-time. -/
def Sub (a b : Nat) : Prop := ∀ β, a.testBit β = true → b.testBit β = true
theorem Sub.refl (a : Nat) : Sub a a := fun _ h => h
theorem Sub.trans {a b c : Nat} (h : Sub a b) (g : Sub b c) : Sub a c := fun β x => g β (h β x)
theorem Sub.zero (a : Nat) : Sub 0 a := fun β h => by simp at h
theorem Sub.or {a b c : Nat} : Sub (a ||| b) c ↔ Sub a c ∧ Sub b c := by
  constructor
  · exact fun h => ⟨fun β x => h β (by simp [x]), fun β x => h β (by simp [x])⟩
  · rintro ⟨h1, h2⟩ β x
    rw [Nat.testBit_or, Bool.or_eq_true] at x
    exact x.elim (h1 β) (h2 β)
theorem Sub.left (a b : Nat) : Sub a (a ||| b) := fun β h => by simp [h]
theorem Sub.right (a b : Nat) : Sub b (a ||| b) := fun β h => by simp [h]
theorem Sub.l {a b c : Nat} (h : Sub a b) : Sub a (b ||| c) := h.trans (Sub.left _ _)
theorem Sub.r {a b c : Nat} (h : Sub a c) : Sub a (b ||| c) := h.trans (Sub.right _ _)
/-! No read at a secret index. -/
/-! What is not secret stays. -/
end Go.Proofs.Ytjjjidcbokbhpaa.CtL

namespace Go.Proofs.Ytjjjidcbokbhpaa.CtL
open Go Go.CT CtF CtR


end Go.Proofs.Ytjjjidcbokbhpaa.CtL

namespace Go.Proofs.Ytjjjidcbokbhpaa.CtL
open Go Go.CT CtF CtR


/-! Plain: a constant-time program is linearized to itself. -/
theorem none0_e0 {e : Ex} (h : none0 e = true) : e = e0 := by
  obtain ⟨k, v, ks⟩ := e
  simp only [none0, Ex.kind, Ex.value, Ex.kids, Bool.and_eq_true, beq_iff_eq, List.isEmpty_iff] at h
  obtain ⟨⟨rfl, rfl⟩, rfl⟩ := h
  rfl
theorem head_parts {p : Pg} {k t : Int} {ix v : Ex} {c : Int} {b e : List St1} (h : headOK p k t ix v c b.length e.length = true) :
    (k = 4 → e = [] ∧ ix = e0 ∧ v = e0) ∧ (k ≠ 4 → c = 0 ∧ (k ≠ 2 → ix = e0)) ∧ (k ≠ 3 → k ≠ 4 → b = [] ∧ e = []) ∧ (k = 3 ∨ k = 4 → t = 0) := by
  simp only [headOK, parts, blk, Bool.and_eq_true] at h
  obtain ⟨⟨h1, h2⟩, _⟩ := h
  refine ⟨fun hk => ?_, fun hk => ?_, fun h3 h4 => ?_, fun hk => ?_⟩
  · rw [if_pos hk] at h2
    simp only [Bool.and_eq_true, beq_iff_eq] at h2
    exact ⟨List.length_eq_zero_iff.1 (by omega), none0_e0 h2.1.2, none0_e0 h2.2⟩
  · rw [if_neg hk] at h2
    simp only [Bool.and_eq_true, beq_iff_eq, Bool.or_eq_true] at h2
    exact ⟨h2.1, fun h => none0_e0 (h2.2.resolve_left h)⟩
  · have e1 : (k == 3) = false := by simpa using h3
    have e2 : (k == 4) = false := by simpa using h4
    have : b.length = 0 ∧ e.length = 0 := by
      cases b <;> cases e <;> simp_all
    exact ⟨List.length_eq_zero_iff.1 this.1, List.length_eq_zero_iff.1 this.2⟩
  · have : (k == 3 || k == 4) = true := by rcases hk with rfl | rfl <;> rfl
    rw [this] at h1
    simpa using h1
/-! Plain: what is linearized first stays. -/
end Go.Proofs.Ytjjjidcbokbhpaa.CtL

namespace Go.Proofs.Ytjjjidcbokbhpaa.CtL
open Go Go.CT CtF CtR


/-! Plain: what the statements on linearization ask. -/
def extM (n : Nat) (m : Mm) : Mm := ⟨m.vals ++ List.replicate (n - m.vals.length) 0, m.arrays⟩
def extOK (p q : Pg) : Bool := progOK p && progOK q && decide ((p.vars.length : Int) ≤ q.vars.length) && decide (p.vars = q.vars.take p.vars.length) && decide (p.arrays = q.arrays)
theorem LowM.ext {p q : Pg} {a b : Mm} (h : LowM 0 p a b) (ha : MemFits p a) (hb : MemFits p b) (he : extOK p q = true) : LowM 0 q (extM q.vars.length a) (extM q.vars.length b) := by
  simp only [extOK, Bool.and_eq_true, decide_eq_true_eq] at he
  obtain ⟨⟨⟨_, h1⟩, h2⟩, h3⟩ := he
  have e1 := ha.nv
  have e2 := hb.nv
  refine ⟨by simp [extM, e1, e2], h.la, fun i x hx hb => ?_, fun i x hx => h.arr i x (by rw [h3]; exact hx)⟩
  simp only [extM]
  by_cases hi : i < p.vars.length
  · rw [List.getElem?_append_left (by omega), List.getElem?_append_left (by omega)]
    refine h.val i x ?_ hb
    rw [h2, List.getElem?_take, if_pos hi]; exact hx
  · rw [List.getElem?_append_right (by omega), List.getElem?_append_right (by omega), e1, e2]
end Go.Proofs.Ytjjjidcbokbhpaa.CtL

namespace Go.Proofs.Ytjjjidcbokbhpaa.CtL
open Go Go.CT CtF CtR

/-! Plain: folding keeps flows and leaks fine. -/
end Go.Proofs.Ytjjjidcbokbhpaa.CtL

namespace Go.Proofs.Ytjjjidcbokbhpaa.CtL
open Go Go.CT CtF CtR

/-! Plain: the machine. -/
structure In where
  op : Int
  a : Int
  b : Int
  c : Int
  d : Int
structure Cd where
  vars : List Int
  arrays : List Int
  list : List In
structure Mc where
  pc : Nat
  regs : List Int
  mem : Mm
def halt : In := ⟨13, 0, 0, 0, 0⟩
def stepM (x : In) (s : Mc) : Mc × List Ev :=
  if x.op = 1 then (⟨s.pc + 1, s.regs.set x.a.toNat x.b, s.mem⟩, [⟨5, s.pc⟩])
  else if x.op = 2 then (⟨s.pc + 1, s.regs.set x.a.toNat (nth s.mem.vals x.b), s.mem⟩, [⟨5, s.pc⟩])
  else if x.op = 3 then (⟨s.pc + 1, s.regs, setV s.mem x.a (nth s.regs x.b)⟩, [⟨5, s.pc⟩])
  else if x.op = 4 then (⟨s.pc + 1, s.regs.set x.a.toNat (nth (arrAt s.mem x.b) (nth s.regs x.c % 4)), s.mem⟩, [⟨5, s.pc⟩, ⟨2, x.b * 4 + nth s.regs x.c % 4⟩])
  else if x.op = 5 then (⟨s.pc + 1, s.regs, setA s.mem x.a (nth s.regs x.b % 4) (nth s.regs x.c)⟩, [⟨5, s.pc⟩, ⟨3, x.a * 4 + nth s.regs x.b % 4⟩])
  else if x.op = 6 then (⟨s.pc + 1, s.regs.set x.a.toNat (bin x.b (nth s.regs x.c) (nth s.regs x.d)), s.mem⟩, [⟨5, s.pc⟩])
  else if x.op = 7 then (⟨s.pc + 1, s.regs.set x.a.toNat (if nth s.regs x.b ≠ 0 then nth s.regs x.c else nth s.regs x.d), s.mem⟩, [⟨5, s.pc⟩])
  else if x.op = 8 then (⟨x.a.toNat, s.regs, s.mem⟩, [⟨5, s.pc⟩])
  else if x.op = 9 then (⟨if nth s.regs x.a = 0 then x.b.toNat else s.pc + 1, s.regs, s.mem⟩, [⟨5, s.pc⟩])
  else if x.op = 10 then (⟨if (nth s.regs x.a + 255) % 256 ≠ 0 then x.b.toNat else s.pc + 1, s.regs.set x.a.toNat ((nth s.regs x.a + 255) % 256), s.mem⟩, [⟨5, s.pc⟩])
  else if x.op = 11 then (⟨s.pc + 1, s.regs, s.mem⟩, [⟨5, s.pc⟩, ⟨4, nth s.regs x.a⟩])
  else if x.op = 13 then (s, [⟨5, s.pc⟩])
  else (⟨s.pc + 1, s.regs, s.mem⟩, [⟨5, s.pc⟩])
def atC (C : List In) (i : Nat) : In := C.getD i halt
def runM (C : List In) : Nat → Mc → Option (Mm × List Ev)
  | 0, _ => none
  | n + 1, s => if (atC C s.pc).op = 13 then some ((stepM (atC C s.pc) s).1.mem, (stepM (atC C s.pc) s).2)
    else (runM C n (stepM (atC C s.pc) s).1).map fun q => (q.1, (stepM (atC C s.pc) s).2 ++ q.2)
def stp (X : List Ev) : Nat := X.countP fun e => e.kind == 5
def Reach (C : List In) (s s' : Mc) (X : List Ev) : Prop := ∀ n, runM C (stp X + n) s = (runM C n s').map fun q => (q.1, X ++ q.2)
theorem Reach.rfl {C : List In} {s : Mc} : Reach C s s [] := fun n => by simp [stp]
theorem Reach.trans {C : List In} {s s' s'' : Mc} {X Y : List Ev} (h : Reach C s s' X) (h2 : Reach C s' s'' Y) : Reach C s s'' (X ++ Y) := fun n => by
  have : stp (X ++ Y) + n = stp X + (stp Y + n) := by simp [stp, List.countP_append]; omega
  rw [this, h, h2, Option.map_map]
  congr 1
  funext q
  simp
theorem stp_step (x : In) (s : Mc) : stp (stepM x s).2 = 1 := by
  unfold stepM
  by_cases h1 : x.op = 1
  · rw [if_pos h1]; rfl
  rw [if_neg h1]
  by_cases h2 : x.op = 2
  · rw [if_pos h2]; rfl
  rw [if_neg h2]
  by_cases h3 : x.op = 3
  · rw [if_pos h3]; rfl
  rw [if_neg h3]
  by_cases h4 : x.op = 4
  · rw [if_pos h4]; rfl
  rw [if_neg h4]
  by_cases h5 : x.op = 5
  · rw [if_pos h5]; rfl
  rw [if_neg h5]
  by_cases h6 : x.op = 6
  · rw [if_pos h6]; rfl
  rw [if_neg h6]
  by_cases h7 : x.op = 7
  · rw [if_pos h7]; rfl
  rw [if_neg h7]
  by_cases h8 : x.op = 8
  · rw [if_pos h8]; rfl
  rw [if_neg h8]
  by_cases h9 : x.op = 9
  · rw [if_pos h9]; rfl
  rw [if_neg h9]
  by_cases h10 : x.op = 10
  · rw [if_pos h10]; rfl
  rw [if_neg h10]
  by_cases h11 : x.op = 11
  · rw [if_pos h11]; rfl
  rw [if_neg h11]
  by_cases h13 : x.op = 13
  · rw [if_pos h13]; rfl
  rw [if_neg h13]
  rfl
theorem Reach.one {C : List In} {s : Mc} {x : In} (h : C[s.pc]? = some x) (hx : x.op ≠ 13) : Reach C s (stepM x s).1 (stepM x s).2 := fun n => by
  have e : atC C s.pc = x := by simp [atC, List.getD, h]
  rw [stp_step, Nat.add_comm, runM, e, if_neg hx]
theorem Reach.one' {C : List In} {s s' : Mc} {x : In} {X : List Ev} (h : C[s.pc]? = some x) (hx : x.op ≠ 13) (he : stepM x s = (s', X)) : Reach C s s' X := by
  have := Reach.one h hx
  rw [he] at this
  exact this
theorem runM_halt {C : List In} {s : Mc} (h : C[s.pc]? = some halt) (n : Nat) : runM C (n + 1) s = some (s.mem, [⟨5, s.pc⟩]) := by
  have e : atC C s.pc = halt := by simp [atC, List.getD, h]
  rw [runM, e, if_pos (by rfl)]
  rfl
theorem runM_more {C : List In} : ∀ (n k : Nat) (s : Mc) (q : Mm × List Ev), runM C n s = some q → runM C (n + k) s = some q
  | 0, k, s, q, h => by simp [runM] at h
  | n + 1, k, s, q, h => by
    rw [show n + 1 + k = (n + k) + 1 by omega]
    rw [runM] at h ⊢
    split
    · rename_i hc; rw [if_pos hc] at h; exact h
    · rename_i hc
      rw [if_neg hc] at h
      obtain ⟨q', hq, rfl⟩ := Option.map_eq_some_iff.1 h
      rw [runM_more n k _ q' hq]; rfl
/-- Whole runs. -/
theorem Reach.run {C : List In} {s s' : Mc} {X : List Ev} (h : Reach C s s' X) (hh : C[s'.pc]? = some halt) (F : Nat) :
    runM C F s = if stp X + 1 ≤ F then some (s'.mem, X ++ [⟨5, s'.pc⟩]) else none := by
  split
  · rename_i hle
    obtain ⟨k, rfl⟩ : ∃ k, F = stp X + (k + 1) := ⟨F - stp X - 1, by omega⟩
    rw [h, runM_halt hh]; rfl
  · rename_i hle
    cases hr : runM C F s with
    | none => rfl
    | some q =>
      have := runM_more F (stp X - F) s q hr
      rw [show F + (stp X - F) = stp X + 0 by omega, h] at this
      simp [runM] at this

def At (C : List In) (b : Nat) (L : List In) : Prop := ∃ pre post, C = pre ++ L ++ post ∧ pre.length = b
theorem At.left {C : List In} {b : Nat} {L R : List In} (h : At C b (L ++ R)) : At C b L := by
  obtain ⟨pre, post, rfl, hl⟩ := h
  exact ⟨pre, R ++ post, by simp, hl⟩
theorem At.right {C : List In} {b n : Nat} {L R : List In} (h : At C b (L ++ R)) (hn : L.length = n) : At C (b + n) R := by
  obtain ⟨pre, post, rfl, hl⟩ := h
  exact ⟨pre ++ L, post, by simp, by simp [hl, hn]⟩
theorem At.head {C : List In} {b : Nat} {x : In} {R : List In} (h : At C b (x :: R)) : C[b]? = some x := by
  obtain ⟨pre, post, rfl, hl⟩ := h
  subst hl; simp
theorem At.tail {C : List In} {b : Nat} {x : In} {R : List In} (h : At C b (x :: R)) : At C (b + 1) R := At.right (L := [x]) h rfl

/-! Code of expressions. -/
def seqE (f : Ex → Nat → List In) : Nat → List Ex → List In
  | _, [] => []
  | n, e :: r => f e n ++ seqE f (n + 1) r
def lastE (k v : Int) (n : Nat) : In :=
  if k = 3 then ⟨4, n, v, n, 0⟩ else if k = 11 then ⟨7, n, n, (n : Int) + 1, (n : Int) + 2⟩ else ⟨6, n, k, n, (n : Int) + 1⟩
def kE : Nat → Ex → Nat → List In
  | 0, _, _ => []
  | d + 1, .mk k v ks, n => if k = 1 then [⟨1, n, v, 0, 0⟩] else if k = 2 then [⟨2, n, v, 0, 0⟩] else seqE (kE d) n ks ++ [lastE k v n]
theorem seqE_snoc (f : Ex → Nat → List In) : ∀ (l : List Ex) (n : Nat) (e : Ex), seqE f n (l ++ [e]) = seqE f n l ++ f e (n + l.length)
  | [], n, e => by simp [seqE]
  | a :: r, n, e => by
    simp only [List.cons_append, seqE, seqE_snoc f r, List.append_assoc, List.length_cons]
    rw [show n + 1 + r.length = n + (r.length + 1) by omega]
theorem seqE_len {p : Pg} {d : Nat} : ∀ (l : List Ex) (n : Nat), (∀ e ∈ l, ∀ n, (kE d e n).length = cnt d e) → (seqE (kE d) n l).length = (l.map (cnt d)).sum
  | [], n, _ => rfl
  | a :: r, n, h => by
    simp only [seqE, List.length_append, List.map_cons, List.sum_cons]
    rw [h a (by simp), seqE_len (p := p) r (n + 1) fun e he => h e (by simp [he])]
theorem kE_len {p : Pg} : ∀ (d : Nat) (e : Ex), CtR.shape p d e = true → ∀ n, (kE d e n).length = cnt d e
  | 0, _, h, _ => by simp [CtR.shape] at h
  | d + 1, .mk k v ks, h, n => by
    obtain ⟨g1, g2, g3⟩ := shape_succ h
    rcases shape_form h with ⟨hk, rfl⟩ | ⟨a, rfl, rfl, ha, hat⟩ | ⟨a, b, k4, k10, rfl, ha, hb⟩ | ⟨a, b, c, rfl, rfl, ha, hb, hc⟩
    · rcases hk with ⟨rfl, _⟩ | rfl <;> simp [kE, cnt]
    all_goals
      rw [kE, if_neg (by omega), if_neg (by omega), List.length_append, seqE_len (p := p) _ _ fun e he n => kE_len d e (g2 e he) n]
      simp only [cnt, List.length_singleton]; omega

/-! What the code of an expression tells. -/
def seqX (f : Nat → Ex → List Ev) (len : Ex → Nat) : Nat → List Ex → List Ev
  | _, [] => []
  | b, e :: r => f b e ++ seqX f len (b + len e) r
def xE (m : Mm) : Nat → Nat → Ex → List Ev
  | 0, _, _ => []
  | d + 1, b, .mk k v ks => seqX (xE m d) (cnt d) b ks ++ ⟨5, (b + (ks.map (cnt d)).sum : Nat)⟩ :: (if k = 3 then [⟨2, v * 4 + (ks.map fun e => (evalE m d e).1).getD 0 0 % 4⟩] else [])

def EOk (C : List In) (m : Mm) (n b l : Nat) (X : List Ev) (val : Int) : Prop := ∀ regs : List Int, regs.length = 14 → ∃ regs' : List Int, Reach C ⟨b, regs, m⟩ ⟨b + l, regs', m⟩ X ∧ regs'.length = 14 ∧ regs'.getD n 0 = val ∧ ∀ j, j < n ∨ 9 ≤ j → regs'.getD j 0 = regs.getD j 0
theorem nth_nat (l : List Int) (n : Nat) : nth l (n : Int) = l.getD n 0 := by simp [nth]
theorem nth_nat1 (l : List Int) (n : Nat) : nth l ((n : Int) + 1) = l.getD (n + 1) 0 := by
  rw [show (n : Int) + 1 = ((n + 1 : Nat) : Int) by omega, nth_nat]
theorem nth_nat2 (l : List Int) (n : Nat) : nth l ((n : Int) + 2) = l.getD (n + 2) 0 := by
  rw [show (n : Int) + 2 = ((n + 2 : Nat) : Int) by omega, nth_nat]
theorem getD_set (l : List Int) (i j : Nat) (x : Int) (hi : i < l.length) : (l.set i x).getD j 0 = if i = j then x else l.getD j 0 := by
  simp only [List.getD_eq_getElem?_getD, List.getElem?_set]
  by_cases h : i = j
  · subst h; simp [hi]
  · simp [h]
theorem EOk.fin {C : List In} {m : Mm} {n b : Nat} {x : In} {val : Int} {X : List Ev} {regs : List Int} (hr : regs.length = 14) (hn : n < 9) (h : C[b]? = some x) (hx : x.op ≠ 13) (he : stepM x ⟨b, regs, m⟩ = (⟨b + 1, regs.set n val, m⟩, X)) :
    ∃ regs' : List Int, Reach C ⟨b, regs, m⟩ ⟨b + 1, regs', m⟩ X ∧ regs'.length = 14 ∧ regs'.getD n 0 = val ∧ ∀ j, j < n ∨ 9 ≤ j → regs'.getD j 0 = regs.getD j 0 := by
  refine ⟨regs.set n val, Reach.one' h hx he, by simp [hr], by rw [getD_set _ _ _ _ (by omega), if_pos rfl], fun j hj => by rw [getD_set _ _ _ _ (by omega), if_neg (by omega)]⟩
theorem kE_run {p : Pg} {C : List In} {m : Mm} (hm : MemFits p m) : ∀ (d : Nat) (e : Ex) (n b : Nat), CtR.shape p d e = true → n + 2 * d ≤ 10 → At C b (kE d e n) → EOk C m n b (cnt d e) (xE m d b e) (evalE m d e).1
  | 0, _, _, _, h, _, _ => by simp [CtR.shape] at h
  | d + 1, .mk k v ks, n, b, h, hn, hat => by
    intro regs hr
    rcases shape_form h with ⟨hk, rfl⟩ | ⟨a, rfl, rfl, ha, _⟩ | ⟨a, b', k4, k10, rfl, ha, hb⟩ | ⟨a, b', c, rfl, rfl, ha, hb, hc⟩
    · rcases hk with ⟨rfl, _⟩ | rfl
      · simp only [kE, if_true] at hat
        have := EOk.fin (C := C) (m := m) (n := n) (b := b) (val := v) (X := [⟨5, b⟩]) hr (by omega) hat.head (by simp) (by simp [stepM])
        simpa [cnt, xE, seqX, evalE] using this
      · simp [kE] at hat
        have := EOk.fin (C := C) (m := m) (n := n) (b := b) (val := nth m.vals v) (X := [⟨5, b⟩]) hr (by omega) hat.head (by simp) (by simp [stepM])
        simpa [cnt, xE, seqX, evalE] using this
    · simp only [kE, seqE, List.append_nil, lastE] at hat
      simp at hat
      obtain ⟨r1, h1, h2, h3, h4⟩ := kE_run hm d a n b ha (by omega) hat.left regs hr
      have hl := hat.right (kE_len d a ha n)
      obtain ⟨r2, g1, g2, g3, g4⟩ := EOk.fin (C := C) (m := m) (n := n) (b := b + cnt d a) (val := nth (arrAt m v) ((evalE m d a).1 % 4)) (X := [⟨5, (b + cnt d a : Nat)⟩, ⟨2, v * 4 + (evalE m d a).1 % 4⟩]) h2 (by omega) hl.head (by simp) (by simp only [stepM, nth_nat, Int.toNat_natCast, h3]; simp)
      refine ⟨r2, ?_, g2, ?_, fun j hj => by rw [g4 j hj, h4 j hj]⟩
      · have := h1.trans g1
        simpa [cnt, xE, seqX, Nat.add_assoc, Nat.add_comm, Nat.add_left_comm] using this
      · simpa [evalE] using g3
    · have n1 : k ≠ 1 := by omega
      have n2 : k ≠ 2 := by omega
      have n3 : k ≠ 3 := by omega
      have n11 : k ≠ 11 := by omega
      simp only [kE, seqE, List.append_nil, lastE, if_neg n1, if_neg n2, if_neg n3, if_neg n11, List.append_assoc] at hat
      obtain ⟨r1, h1, h2, h3, h4⟩ := kE_run hm d a n b ha (by omega) hat.left regs hr
      have hl := hat.right (kE_len d a ha n)
      obtain ⟨r2, i1, i2, i3, i4⟩ := kE_run hm d b' (n + 1) (b + cnt d a) hb (by omega) hl.left r1 h2
      have hl2 := hl.right (kE_len d b' hb (n + 1))
      have e0 : r2.getD n 0 = (evalE m d a).1 := by rw [i4 n (by omega), h3]
      obtain ⟨r3, g1, g2, g3, g4⟩ := EOk.fin (C := C) (m := m) (n := n) (b := b + cnt d a + cnt d b') (val := bin k (evalE m d a).1 (evalE m d b').1) (X := [⟨5, (b + cnt d a + cnt d b' : Nat)⟩]) i2 (by omega) hl2.head (by simp) (by simp only [stepM, nth_nat, nth_nat1, Int.toNat_natCast]; rw [e0, i3]; simp)
      refine ⟨r3, ?_, g2, ?_, fun j hj => by rw [g4 j hj, i4 j (by omega), h4 j hj]⟩
      · have := (h1.trans i1).trans g1
        simpa [cnt, xE, seqX, n3, Nat.add_assoc, Nat.add_comm, Nat.add_left_comm] using this
      · simpa [evalE, n1, n2, n3, n11] using g3
    · simp only [kE, seqE, List.append_nil, lastE, List.append_assoc] at hat
      simp only [show ¬ ((11 : Int) = 1) by decide, show ¬ ((11 : Int) = 2) by decide, show ¬ ((11 : Int) = 3) by decide, if_true, if_false] at hat
      obtain ⟨r1, h1, h2, h3, h4⟩ := kE_run hm d a n b ha (by omega) hat.left regs hr
      have hl := hat.right (kE_len d a ha n)
      obtain ⟨r2, i1, i2, i3, i4⟩ := kE_run hm d b' (n + 1) (b + cnt d a) hb (by omega) hl.left r1 h2
      have hl2 := hl.right (kE_len d b' hb (n + 1))
      obtain ⟨r3, j1, j2, j3, j4⟩ := kE_run hm d c (n + 1 + 1) (b + cnt d a + cnt d b') hc (by omega) hl2.left r2 i2
      have hl3 := hl2.right (kE_len d c hc (n + 1 + 1))
      have e0 : r3.getD n 0 = (evalE m d a).1 := by rw [j4 n (by omega), i4 n (by omega), h3]
      have e1 : r3.getD (n + 1) 0 = (evalE m d b').1 := by rw [j4 (n + 1) (by omega), i3]
      obtain ⟨r4, g1, g2, g3, g4⟩ := EOk.fin (C := C) (m := m) (n := n) (b := b + cnt d a + cnt d b' + cnt d c) (val := if (evalE m d a).1 ≠ 0 then (evalE m d b').1 else (evalE m d c).1) (X := [⟨5, (b + cnt d a + cnt d b' + cnt d c : Nat)⟩]) j2 (by omega) hl3.head (by simp) (by simp only [stepM, nth_nat, nth_nat1, nth_nat2, Int.toNat_natCast]; rw [e0, e1, j3]; simp)
      refine ⟨r4, ?_, g2, ?_, fun j hj => by rw [g4 j hj, j4 j (by omega), i4 j (by omega), h4 j hj]⟩
      · have := ((h1.trans i1).trans j1).trans g1
        simpa [cnt, xE, seqX, Nat.add_assoc, Nat.add_comm, Nat.add_left_comm] using this
      · simpa [evalE] using g3
end Go.Proofs.Ytjjjidcbokbhpaa.CtL
