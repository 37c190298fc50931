/- Contracts of functions of the program, one behind the other, as plain data: what each call returns and which blocks it leaves. -/
import Derived.Test.YtjjjidcbokbhpaaGreatJFacts
import Derived.Test.YtjjjidcbokbhpaaGreatJAh
import Derived.Test.YtjjjidcbokbhpaaGreatJAj
import Derived.Test.YtjjjidcbokbhpaaGreatJAl
import Derived.Test.YtjjjidcbokbhpaaGreatJAn
import Derived.Test.YtjjjidcbokbhpaaGreatJAo
import Derived.Test.YtjjjidcbokbhpaaGreatJAp
import Derived.Test.YtjjjidcbokbhpaaGreatJAq
import Derived.Test.YtjjjidcbokbhpaaGreatJAs
import Derived.Test.YtjjjidcbokbhpaaGreatJAk
import Derived.Test.YtjjjidcbokbhpaaGreatJAm
import Derived.Test.YtjjjidcbokbhpaaGreatJAi
set_option linter.unusedVariables false
set_option linter.unusedSimpArgs false
set_option maxHeartbeats 16000000
set_option maxRecDepth 100000
namespace Go.Proofs.YtjjjidcbokbhpaaGreat.CtD
open Go Go.CT CtF CtR
structure LowV {α : Type} (β : Nat) (ls : List Int) (a a' : List α) : Prop where
 len : a'.length = a.length
 eq : ∀ (j : Nat) (x : Int), ls[j]? = some x → x.toNat.testBit β = false → a[j]? = a'[j]?
theorem LowV.refl {α : Type} (β : Nat) (ls : List Int) (a : List α) : LowV β ls a a := ⟨rfl, fun _ _ _ _ => rfl⟩
theorem LowV.set {α : Type} {β : Nat} {ls : List Int} {a a' : List α} (h : LowV β ls a a') {i : Nat} {x : Int} (hx : ls[i]? = some x) (hb : x.toNat.testBit β = true) (v : α) : LowV β ls a (a'.set i v) :=
 ⟨by rw [List.length_set, h.len], fun j y hy hf => by
  rw [List.getElem?_set]
  by_cases e : i = j
  ·subst e; rw [hx] at hy; cases hy; rw [hb] at hf; cases hf
  ·rw [if_neg e]; exact h.eq j y hy hf⟩
theorem rng_set {l : List Int} (h : ∀ y ∈ l, 0 ≤ y ∧ y ≤ 255) {i : Nat} {v : Int} (hv : 0 ≤ v ∧ v ≤ 255) : ∀ y ∈ l.set i v, 0 ≤ y ∧ y ≤ 255 := fun y hy => by
 rcases List.mem_or_eq_of_mem_set hy with h1 | rfl
 ·exact h y h1
 ·exact hv
def seR (β : Nat) (p : Pg) (m : Mm) (bs : List Int) (n : Nat) (r : D) (h : List (Option (List C))) : Prop := ∃ m' : Mm, r = .agg m'.cells ∧ MemFits p m' ∧ LowM β p m m' ∧ rdL bs n 30 h
theorem bitB {β : Nat} {bit : Int} (hβ : (β = 0 ∧ bit = 1) ∨ (β = 1 ∧ bit = 2)) {T : Nat} (hT : T ≤ 3) : ∃ b : Bool, T.testBit β = b ∧ ((((T &&& bit.toNat : Nat) : Int) = 0) = (b = false)) ∧ ((((T &&& bit.toNat : Nat) : Int) != 0) = b) := by
 rcases hβ with ⟨rfl, rfl⟩ | ⟨rfl, rfl⟩ <;> rcases le3 hT with rfl | rfl | rfl | rfl <;> refine ⟨_, rfl, ?_, ?_⟩ <;> decide
theorem secrets (bs : List Int) (n : Nat) (p : Pg) (m : Mm) (hb : Fits .u8 bs) (hl : bs.length ≤ 2000) (hn : n ≤ 274877906944) (hm : MemFits p m) (h1 : lab3 p.vars) (h2 : lab3 p.arrays) (β : Nat) (bit : Int) (hβ : (β = 0 ∧ bit = 1) ∨ (β = 1 ∧ bit = 2)) :
 DC Tryz.prog 71 [.c (.ptr 0 0), .agg p.cells, .agg m.cells, DI .i64 bit] [some (rdr bs n)] (seR β p m bs n) := by
 have hmx := mx_eq
 have hval := fun n h => l3Value bs n hb hl h
 have hcp := l3Copy m (by have := hm.nv; have := hm.nv12; omega) (by have := hm.na; have := hm.na2; omega) (fun a h => (hm.arr a h).1)
 have hbv : ∀ x : Int, 0 ≤ x ∧ x ≤ 3 → ∃ T : Nat, T ≤ 3 ∧ x = (T : Int) := fun x hx => ⟨x.toNat, by omega, by omega⟩
 have hbit0 : 0 ≤ bit ∧ bit ≤ 2 := by omega
 generalize hR : seR β p m bs n = R
 unfold memB at hcp
 have hnv := hm.nv
 have hna := hm.na
 have hnv12 := hm.nv12
 have hna2 := hm.na2
 have hva := hm.val
 have har := hm.arr
 obtain ⟨vs, ar, bd⟩ := p
 obtain ⟨va, arr⟩ := m
 simp only at hnv hna hnv12 hna2 hva har h1 h2
 refine dcZ Tryz.func71 ?_
 simp only [go_sem, Mm.cells, rdr]
 ((try (refine drvZ Tryz.func71 ?_; simp only [go_sem, Mm.cells, rdr])); ((with_reducible and_intros) <;> try exact sd))
 refine XK.callG [] hcp ok137 (fun i' x h => by simp at h) (hbT ()) (fun d h' ⟨_, e⟩ => by subst e; simp) ?_
 rintro _ _ ⟨rfl, rfl⟩ _
 iterate 3 ((try (refine drvZ Tryz.func71 ?_; simp only [go_sem, renCs_I, renCs_hdr, renCs_b0, renCs_b1, rdr])); ((with_reducible and_intros) <;> try exact sd))
 refine Go.loopQ (fun x : Nat × Nat × List Int => [(0, .c (.ptr 0 0)), (3, DI .i64 bit), (5, .c (.ptr 1 0)), (8, .c (.ptr 129 0)), (9, .c (.ptr 321 0)), (10, DI .i64 x.1)])
  (fun x => [(0, some (rdr bs x.2.1)), (1, some (Pg.cells ⟨vs, ar, bd⟩)), (129, some [.v (.slice none 0 0), .v (.slice none 0 0)]), (257, some (x.2.2.map I64)), (258, some (hdr 259 260 arr.length)), (259, some (blk0 arr)), (260, some (blk1 arr)), (321, some [.msl 257 1 0 va.length, .msl 258 1 0 arr.length])])
  4096 (fun x => x.1 ≤ vs.length ∧ n ≤ x.2.1 ∧ x.2.1 ≤ n + x.1 ∧ (∀ y ∈ x.2.2, 0 ≤ y ∧ y ≤ 255) ∧ LowV β vs va x.2.2) (fun x => vs.length - x.1) ?_ (0, n, va) some [] _ ⟨Nat.zero_le _, Nat.le_refl _, Nat.le_refl _, hva, .refl _ _ _⟩ ?_
 ·rintro ⟨i, pos, S⟩ ⟨hi1, hi2, hi3, hi4, hi5⟩ again
  simp only at hi1 hi2 hi3 hi4 hi5
  have hSl := hi5.len
  rcases Nat.lt_or_ge i vs.length with hlt | hge
  ·obtain ⟨x, hx⟩ : ∃ x, vs[i]? = some x := ⟨vs[i], by simp [hlt]⟩
   obtain ⟨T, hT, rfl⟩ := hbv x (h1 x (List.mem_of_getElem? hx))
   have hlt2 : i < va.length := by omega
   obtain ⟨bb, hb1, hb2, hb3⟩ := bitB hβ hT
   cases bb with
   | false =>
    refine drvL Tryz.func71 ?_
    simp only [go_sem, rdr, hlt, hlt2]
    iterate 5 ((try (refine drvZ Tryz.func71 ?_; simp only [go_sem, rdr, hlt, hlt2, hx, hb2, hb3])); ((with_reducible and_intros) <;> try exact sd))
    refine again (i + 1, pos, S) some [] _ ⟨hlt, hi2, (show pos ≤ n + (i + 1) by omega), hi4, hi5⟩ (show vs.length - (i + 1) < vs.length - i by omega) ?_
    simp only [go_sem, TmOK, DM, DMs, CM, CMs, forall_eq, exists_eq_left, Mq, HpOK, LowOK, rdr]
    simp [CMs_I, CMs_hdr, CMs_b0, CMs_b1, upd]
   | true =>
    refine drvL Tryz.func71 ?_
    simp only [go_sem, rdr, hlt, hlt2]
    iterate 5 ((try (refine drvZ Tryz.func71 ?_; simp only [go_sem, rdr, hlt, hlt2, hx, hb2, hb3])); ((with_reducible and_intros) <;> try exact sd))
    refine XK.callG [0] (hval pos (by omega)) ok136 (hhp_one rfl) (hbT ()) (fun d h' ⟨_, _, _, _, _, _, e⟩ => by subst e; simp) ?_ (fun _ => ⟨by kernel_rfl, _, _, ⟨0, rfl, by omega, pos, by omega, by omega, rfl⟩, by simp⟩)
    rintro _ _ ⟨v, rfl, hv, pos', hp1, hp3, rfl⟩ _
    iterate 5 ((try (refine drvZ Tryz.func71 ?_; simp only [go_sem, rdr, hlt, hlt2])); ((with_reducible and_intros) <;> try exact sd))
    refine again (i + 1, pos', S.set i v) some [] _ ⟨hlt, (show n ≤ pos' by omega), (show pos' ≤ n + (i + 1) by omega), rng_set hi4 hv, hi5.set hx (by simpa using hb1) v⟩ (show vs.length - (i + 1) < vs.length - i by omega) ?_
    simp only [go_sem, TmOK, DM, DMs, CM, CMs, forall_eq, exists_eq_left, Mq, HpOK, LowOK, rdr]
    simp [CMs_I, CMs_hdr, CMs_b0, CMs_b1, upd]
    try exact CMs.kf (by rw [← List.map_set]; exact kf_I _)
  ·have hn1 : ¬ i < va.length := by omega
   have hn2 : ¬ i < vs.length := by omega
   have z00 : ((0 : Int) < 0) = False := eq_false (by omega)
   have z01 : ((0 : Int) < 1) = True := eq_true (by omega)
   have z02 : ((0 : Int) < 2) = True := eq_true (by omega)
   have z12 : ((1 : Int) < 2) = True := eq_true (by omega)
   have z11 : ((1 : Int) < 1) = False := eq_false (by omega)
   have z22 : ((2 : Int) < 2) = False := eq_false (by omega)
   clear again
   have fin : ∀ (A : List (List Int)) (ps : Nat) (hp : Hp), A.length = arr.length → pos ≤ ps → ps ≤ pos + 8 → LowV β ar arr A → (∀ a ∈ A, a.length = 4 ∧ ∀ y ∈ a, 0 ≤ y ∧ y ≤ 255) → hp 0 = some (some (rdr bs ps)) → hp 257 = some (some (S.map I64)) → hp 258 = some (some (hdr 259 260 arr.length)) → hp 259 = some (some (blk0 A)) → hp 260 = some (some (blk1 A)) →
    RetOb 1 R (.agg [.msl 257 1 0 va.length, .msl 258 1 0 arr.length]) hp := fun A ps hp e1 e2 e3 e4 e5 g0 g1 g2 g3 g4 =>
    RetOb.memK (m := ⟨S, A⟩) (k2 := 259) (k3 := 260) (by simp only; omega) (by
     rw [← hR]
     exact ⟨⟨S, A⟩, rfl, ⟨by simp only; omega, by simp only; omega, hnv12, hna2, hi4, e5⟩, ⟨by simp only; omega, by simp only; omega, hi5.eq, e4.eq⟩, ps, by omega, by omega, rfl⟩) (rdr_kf bs ps) g0 g1 (by rw [g2, ← e1, hdr_hdA _ _ _ (by omega) (fun a h => (e5 a h).1)]) g3 g4 (by simp only; omega) (by simp only; omega) (by decide)
   refine drvL Tryz.func71 ?_
   simp only [go_sem, rdr, hn1, hn2]
   iterate 3 ((try (refine drvZ Tryz.func71 ?_; simp only [go_sem, rdr, hn1, hn2])); ((with_reducible and_intros) <;> try exact sd))
   rcases arr with _ | ⟨a, _ | ⟨b, _ | ⟨c, r⟩⟩⟩ <;> rcases ar with _ | ⟨l, _ | ⟨l', _ | ⟨l3, r2⟩⟩⟩ <;> simp only [List.length_cons, List.length_nil] at hna hna2 <;> (try (exfalso; omega))
   ·refine Go.loop ?_
    refine drvL Tryz.func71 ?_
    simp only [go_sem, rdr, List.getElem?_cons_zero, List.getElem?_cons_succ, Int.natCast_zero, z01, z02, z12, z11, z22, z00]
    iterate 3 ((try (refine drvZ Tryz.func71 ?_; simp only [go_sem, rdr, List.getElem?_cons_zero, List.getElem?_cons_succ, Int.natCast_zero, z01, z02, z12, z11, z22, z00])); ((with_reducible and_intros) <;> try exact sd))
    exact fin [] pos _ rfl (by omega) (by omega) (.refl _ _ _) (by simp) rfl rfl rfl rfl rfl
   ·obtain ⟨T0, hT0, rfl⟩ := hbv l (h2 l (by simp))
    have hT0x : ([((T0 : Nat) : Int)] : List Int)[0]? = some (T0 : Int) := rfl
    have h4a := har a (by simp)
    have hb0 : blk0 [a] = a.map I64 := rfl
    have hb1 : blk1 [a] = [] := rfl
    have hh1 : hdr 259 260 1 = [.msl 259 1 0 4] := rfl
    obtain ⟨pos0, hpos0⟩ : ∃ p, p = pos := ⟨pos, rfl⟩
    subst hpos0
    refine Go.loop ?_
    refine drvL Tryz.func71 ?_
    simp only [go_sem, rdr, hb0, hb1, hh1, List.getElem?_cons_zero, List.getElem?_cons_succ, Int.natCast_zero, z01, z02, z12, z11, z22, z00]
    iterate 3 ((try (refine drvZ Tryz.func71 ?_; simp only [go_sem, rdr, hb0, hb1, hh1, List.getElem?_cons_zero, List.getElem?_cons_succ, Int.natCast_zero, z01, z02, z12, z11, z22, z00])); ((with_reducible and_intros) <;> try exact sd))
    refine Go.loopQ (fun x : Nat × Nat × List Int => [(0, .c (.ptr 0 0)), (3, DI .i64 bit), (5, .c (.ptr 1 0)), (8, .c (.ptr 129 0)), (9, .c (.ptr 321 0)), (11, DI .i64 0), (12, DI .i64 x.1)])
     (fun x => [(0, some (rdr bs x.2.1)), (1, some (Pg.cells ⟨vs, [(T0 : Int)], bd⟩)), (129, some [.v (.slice none 0 0), .v (.slice none 0 0)]), (257, some (S.map I64)), (258, some ([.msl 259 1 0 4])), (259, some (x.2.2.map I64)), (260, some ([])), (321, some [.msl 257 1 0 va.length, .msl 258 1 0 1])])
     8192 (fun x => x.1 ≤ 4 ∧ pos0 ≤ x.2.1 ∧ x.2.1 ≤ pos0 + x.1 ∧ x.2.2.length = 4 ∧ (∀ y ∈ x.2.2, 0 ≤ y ∧ y ≤ 255) ∧ (T0.testBit β = false → x.2.2 = a)) (fun x => 4 - x.1) ?_ (0, pos0, a) some [] _ ⟨Nat.zero_le _, Nat.le_refl _, Nat.le_refl _, h4a.1, h4a.2, fun _ => rfl⟩ ?_
    ·rintro ⟨k, ps, c⟩ ⟨hk1, hk2, hk3, hk4, hk5, hk6⟩ again
     simp only at hk1 hk2 hk3 hk4 hk5 hk6
     rcases Nat.lt_or_ge k 4 with hlt | hge
     ·have hz : ((k : Int) < 4) = True := eq_true (by omega)
      obtain ⟨bb, hb1, hb2, hb3⟩ := bitB hβ hT0
      cases bb with
      | false =>
       refine drvL Tryz.func71 ?_
       simp only [go_sem, rdr, hz, List.getElem?_cons_zero, List.getElem?_cons_succ, Int.natCast_zero, z01, z02, z12, z11, z22, z00]
       iterate 5 ((try (refine drvZ Tryz.func71 ?_; simp only [go_sem, rdr, hz, hT0x, hb2, hb3, List.getElem?_cons_zero, List.getElem?_cons_succ, Int.natCast_zero, z01, z02, z12, z11, z22, z00])); ((with_reducible and_intros) <;> try exact sd))
       refine again (k + 1, ps, c) some [] _ ⟨hlt, hk2, (show ps ≤ pos0 + (k + 1) by omega), hk4, hk5, hk6⟩ (show 4 - (k + 1) < 4 - k by omega) ?_
       simp only [go_sem, TmOK, DM, DMs, CM, CMs, forall_eq, exists_eq_left, Mq, HpOK, LowOK, rdr]
       simp [CMs_I, CMs_hdr, CMs_b0, CMs_b1, upd]
      | true =>
       refine drvL Tryz.func71 ?_
       simp only [go_sem, rdr, hz, List.getElem?_cons_zero, List.getElem?_cons_succ, Int.natCast_zero, z01, z02, z12, z11, z22, z00]
       iterate 5 ((try (refine drvZ Tryz.func71 ?_; simp only [go_sem, rdr, hz, hT0x, hb2, hb3, List.getElem?_cons_zero, List.getElem?_cons_succ, Int.natCast_zero, z01, z02, z12, z11, z22, z00])); ((with_reducible and_intros) <;> try exact sd))
       refine XK.callG [0] (hval ps (by omega)) ok136 (hhp_one rfl) (hbT ()) (fun d h' ⟨_, _, _, _, _, _, e⟩ => by subst e; simp) ?_ (fun _ => ⟨by kernel_rfl, _, _, ⟨0, rfl, by omega, ps, by omega, by omega, rfl⟩, by simp⟩)
       rintro _ _ ⟨v, rfl, hv, ps', hp1, hp3, rfl⟩ _
       iterate 5 ((try (refine drvZ Tryz.func71 ?_; simp only [go_sem, rdr, hz, List.getElem?_cons_zero, List.getElem?_cons_succ, Int.natCast_zero, z01, z02, z12, z11, z22, z00, hk4])); ((with_reducible and_intros) <;> try exact sd))
       refine again (k + 1, ps', c.set k v) some [] _ ⟨hlt, (show pos0 ≤ ps' by omega), (show ps' ≤ pos0 + (k + 1) by omega), by rw [List.length_set]; exact hk4, rng_set hk5 hv, fun h => by rw [hb1] at h; cases h⟩ (show 4 - (k + 1) < 4 - k by omega) ?_
       simp only [go_sem, TmOK, DM, DMs, CM, CMs, forall_eq, exists_eq_left, Mq, HpOK, LowOK, rdr]
       simp [CMs_I, CMs_hdr, CMs_b0, CMs_b1, upd]
       try exact CMs.kf (by rw [← List.map_set]; exact kf_I _)
     ·have hz : ((k : Int) < 4) = False := eq_false (by omega)
      clear again
      refine drvL Tryz.func71 ?_
      simp only [go_sem, rdr, hz, List.getElem?_cons_zero, List.getElem?_cons_succ, Int.natCast_zero, z01, z02, z12, z11, z22, z00]
      iterate 3 ((try (refine drvZ Tryz.func71 ?_; simp only [go_sem, rdr, hz, List.getElem?_cons_zero, List.getElem?_cons_succ, Int.natCast_zero, z01, z02, z12, z11, z22, z00])); ((with_reducible and_intros) <;> try exact sd))
      refine Go.inLoop ?_
      refine drvL Tryz.func71 ?_
      simp only [go_sem, rdr, List.getElem?_cons_zero, List.getElem?_cons_succ, Int.natCast_zero, z01, z02, z12, z11, z22, z00]
      iterate 3 ((try (refine drvZ Tryz.func71 ?_; simp only [go_sem, rdr, List.getElem?_cons_zero, List.getElem?_cons_succ, Int.natCast_zero, z01, z02, z12, z11, z22, z00])); ((with_reducible and_intros) <;> try exact sd))
      exact fin [c] ps _ (by simp) (by omega) (by omega) ⟨rfl, fun j x hj hf => by
       match j, hj with
       | 0, hj => simp only [List.getElem?_cons_zero, Option.some.injEq] at hj; subst hj; simp [hk6 (by simpa using hf)]
       | j + 1, hj => simp at hj⟩ (by simpa using ⟨hk4, hk5⟩) rfl rfl rfl rfl rfl
    ·simp only [go_sem, TmOK, DM, DMs, CM, CMs, forall_eq, exists_eq_left, Mq, HpOK, LowOK, rdr]
     simp [CMs_I, CMs_hdr, CMs_b0, CMs_b1, upd]
   ·obtain ⟨T0, hT0, rfl⟩ := hbv l (h2 l (by simp))
    obtain ⟨T1, hT1, rfl⟩ := hbv l' (h2 l' (by simp))
    have hT0x : ([((T0 : Nat) : Int), ((T1 : Nat) : Int)] : List Int)[0]? = some (T0 : Int) := rfl
    have hT1x : ([((T0 : Nat) : Int), ((T1 : Nat) : Int)] : List Int)[1]? = some (T1 : Int) := rfl
    have h4a := har a (by simp)
    have h4b := har b (by simp)
    have hb0 : blk0 [a, b] = a.map I64 := rfl
    have hb1 : blk1 [a, b] = b.map I64 := rfl
    have hh1 : hdr 259 260 2 = [.msl 259 1 0 4, .msl 260 1 0 4] := rfl
    obtain ⟨pos0, hpos0⟩ : ∃ p, p = pos := ⟨pos, rfl⟩
    subst hpos0
    refine Go.loop ?_
    refine drvL Tryz.func71 ?_
    simp only [go_sem, rdr, hb0, hb1, hh1, List.getElem?_cons_zero, List.getElem?_cons_succ, Int.natCast_zero, z01, z02, z12, z11, z22, z00]
    iterate 3 ((try (refine drvZ Tryz.func71 ?_; simp only [go_sem, rdr, hb0, hb1, hh1, List.getElem?_cons_zero, List.getElem?_cons_succ, Int.natCast_zero, z01, z02, z12, z11, z22, z00])); ((with_reducible and_intros) <;> try exact sd))
    refine Go.loopQ (fun x : Nat × Nat × List Int => [(0, .c (.ptr 0 0)), (3, DI .i64 bit), (5, .c (.ptr 1 0)), (8, .c (.ptr 129 0)), (9, .c (.ptr 321 0)), (11, DI .i64 0), (12, DI .i64 x.1)])
     (fun x => [(0, some (rdr bs x.2.1)), (1, some (Pg.cells ⟨vs, [(T0 : Int), (T1 : Int)], bd⟩)), (129, some [.v (.slice none 0 0), .v (.slice none 0 0)]), (257, some (S.map I64)), (258, some ([.msl 259 1 0 4, .msl 260 1 0 4])), (259, some (x.2.2.map I64)), (260, some (b.map I64)), (321, some [.msl 257 1 0 va.length, .msl 258 1 0 2])])
     8192 (fun x => x.1 ≤ 4 ∧ pos0 ≤ x.2.1 ∧ x.2.1 ≤ pos0 + x.1 ∧ x.2.2.length = 4 ∧ (∀ y ∈ x.2.2, 0 ≤ y ∧ y ≤ 255) ∧ (T0.testBit β = false → x.2.2 = a)) (fun x => 4 - x.1) ?_ (0, pos0, a) some [] _ ⟨Nat.zero_le _, Nat.le_refl _, Nat.le_refl _, h4a.1, h4a.2, fun _ => rfl⟩ ?_
    ·rintro ⟨k, ps, c⟩ ⟨hk1, hk2, hk3, hk4, hk5, hk6⟩ again
     simp only at hk1 hk2 hk3 hk4 hk5 hk6
     rcases Nat.lt_or_ge k 4 with hlt | hge
     ·have hz : ((k : Int) < 4) = True := eq_true (by omega)
      obtain ⟨bb, hb1, hb2, hb3⟩ := bitB hβ hT0
      cases bb with
      | false =>
       refine drvL Tryz.func71 ?_
       simp only [go_sem, rdr, hz, List.getElem?_cons_zero, List.getElem?_cons_succ, Int.natCast_zero, z01, z02, z12, z11, z22, z00]
       iterate 5 ((try (refine drvZ Tryz.func71 ?_; simp only [go_sem, rdr, hz, hT0x, hb2, hb3, List.getElem?_cons_zero, List.getElem?_cons_succ, Int.natCast_zero, z01, z02, z12, z11, z22, z00])); ((with_reducible and_intros) <;> try exact sd))
       refine again (k + 1, ps, c) some [] _ ⟨hlt, hk2, (show ps ≤ pos0 + (k + 1) by omega), hk4, hk5, hk6⟩ (show 4 - (k + 1) < 4 - k by omega) ?_
       simp only [go_sem, TmOK, DM, DMs, CM, CMs, forall_eq, exists_eq_left, Mq, HpOK, LowOK, rdr]
       simp [CMs_I, CMs_hdr, CMs_b0, CMs_b1, upd]
      | true =>
       refine drvL Tryz.func71 ?_
       simp only [go_sem, rdr, hz, List.getElem?_cons_zero, List.getElem?_cons_succ, Int.natCast_zero, z01, z02, z12, z11, z22, z00]
       iterate 5 ((try (refine drvZ Tryz.func71 ?_; simp only [go_sem, rdr, hz, hT0x, hb2, hb3, List.getElem?_cons_zero, List.getElem?_cons_succ, Int.natCast_zero, z01, z02, z12, z11, z22, z00])); ((with_reducible and_intros) <;> try exact sd))
       refine XK.callG [0] (hval ps (by omega)) ok136 (hhp_one rfl) (hbT ()) (fun d h' ⟨_, _, _, _, _, _, e⟩ => by subst e; simp) ?_ (fun _ => ⟨by kernel_rfl, _, _, ⟨0, rfl, by omega, ps, by omega, by omega, rfl⟩, by simp⟩)
       rintro _ _ ⟨v, rfl, hv, ps', hp1, hp3, rfl⟩ _
       iterate 5 ((try (refine drvZ Tryz.func71 ?_; simp only [go_sem, rdr, hz, List.getElem?_cons_zero, List.getElem?_cons_succ, Int.natCast_zero, z01, z02, z12, z11, z22, z00, hk4])); ((with_reducible and_intros) <;> try exact sd))
       refine again (k + 1, ps', c.set k v) some [] _ ⟨hlt, (show pos0 ≤ ps' by omega), (show ps' ≤ pos0 + (k + 1) by omega), by rw [List.length_set]; exact hk4, rng_set hk5 hv, fun h => by rw [hb1] at h; cases h⟩ (show 4 - (k + 1) < 4 - k by omega) ?_
       simp only [go_sem, TmOK, DM, DMs, CM, CMs, forall_eq, exists_eq_left, Mq, HpOK, LowOK, rdr]
       simp [CMs_I, CMs_hdr, CMs_b0, CMs_b1, upd]
       try exact CMs.kf (by rw [← List.map_set]; exact kf_I _)
     ·have hz : ((k : Int) < 4) = False := eq_false (by omega)
      clear again
      refine drvL Tryz.func71 ?_
      simp only [go_sem, rdr, hz, List.getElem?_cons_zero, List.getElem?_cons_succ, Int.natCast_zero, z01, z02, z12, z11, z22, z00]
      iterate 3 ((try (refine drvZ Tryz.func71 ?_; simp only [go_sem, rdr, hz, List.getElem?_cons_zero, List.getElem?_cons_succ, Int.natCast_zero, z01, z02, z12, z11, z22, z00])); ((with_reducible and_intros) <;> try exact sd))
      obtain ⟨A0, hA⟩ : ∃ A0, A0 = c := ⟨c, rfl⟩
      rw [← hA] at hk4 hk5 hk6 ⊢
      obtain ⟨pos1, hps⟩ : ∃ p, p = ps := ⟨ps, rfl⟩
      rw [← hps] at hk2 hk3 ⊢
      have h4A : A0.length = 4 ∧ ∀ y ∈ A0, 0 ≤ y ∧ y ≤ 255 := ⟨hk4, hk5⟩
      have hA0 := hk6
      have hq1 : pos0 ≤ pos1 := hk2
      have hq2 : pos1 ≤ pos0 + 4 := by omega
      clear hk1 hk2 hk3 hk4 hk5 hk6 hz hge hA hps
      refine Go.inLoop ?_
      refine drvL Tryz.func71 ?_
      simp only [go_sem, rdr, List.getElem?_cons_zero, List.getElem?_cons_succ, Int.natCast_zero, z01, z02, z12, z11, z22, z00]
      iterate 3 ((try (refine drvZ Tryz.func71 ?_; simp only [go_sem, rdr, List.getElem?_cons_zero, List.getElem?_cons_succ, Int.natCast_zero, z01, z02, z12, z11, z22, z00])); ((with_reducible and_intros) <;> try exact sd))
      refine Go.loopQ (fun x : Nat × Nat × List Int => [(0, .c (.ptr 0 0)), (3, DI .i64 bit), (5, .c (.ptr 1 0)), (8, .c (.ptr 129 0)), (9, .c (.ptr 321 0)), (11, DI .i64 1), (12, DI .i64 x.1)])
       (fun x => [(0, some (rdr bs x.2.1)), (1, some (Pg.cells ⟨vs, [(T0 : Int), (T1 : Int)], bd⟩)), (129, some [.v (.slice none 0 0), .v (.slice none 0 0)]), (257, some (S.map I64)), (258, some ([.msl 259 1 0 4, .msl 260 1 0 4])), (259, some (A0.map I64)), (260, some (x.2.2.map I64)), (321, some [.msl 257 1 0 va.length, .msl 258 1 0 2])])
       12288 (fun x => x.1 ≤ 4 ∧ pos1 ≤ x.2.1 ∧ x.2.1 ≤ pos1 + x.1 ∧ x.2.2.length = 4 ∧ (∀ y ∈ x.2.2, 0 ≤ y ∧ y ≤ 255) ∧ (T1.testBit β = false → x.2.2 = b)) (fun x => 4 - x.1) ?_ (0, pos1, b) some [] _ ⟨Nat.zero_le _, Nat.le_refl _, Nat.le_refl _, h4b.1, h4b.2, fun _ => rfl⟩ ?_
      ·rintro ⟨k, ps, c⟩ ⟨hk1, hk2, hk3, hk4, hk5, hk6⟩ again
       simp only at hk1 hk2 hk3 hk4 hk5 hk6
       rcases Nat.lt_or_ge k 4 with hlt | hge
       ·have hz : ((k : Int) < 4) = True := eq_true (by omega)
        obtain ⟨bb, hb1, hb2, hb3⟩ := bitB hβ hT1
        cases bb with
        | false =>
         refine drvL Tryz.func71 ?_
         simp only [go_sem, rdr, hz, List.getElem?_cons_zero, List.getElem?_cons_succ, Int.natCast_zero, z01, z02, z12, z11, z22, z00]
         iterate 5 ((try (refine drvZ Tryz.func71 ?_; simp only [go_sem, rdr, hz, hT1x, hb2, hb3, List.getElem?_cons_zero, List.getElem?_cons_succ, Int.natCast_zero, z01, z02, z12, z11, z22, z00])); ((with_reducible and_intros) <;> try exact sd))
         refine again (k + 1, ps, c) some [] _ ⟨hlt, hk2, (show ps ≤ pos1 + (k + 1) by omega), hk4, hk5, hk6⟩ (show 4 - (k + 1) < 4 - k by omega) ?_
         simp only [go_sem, TmOK, DM, DMs, CM, CMs, forall_eq, exists_eq_left, Mq, HpOK, LowOK, rdr]
         simp [CMs_I, CMs_hdr, CMs_b0, CMs_b1, upd]
        | true =>
         refine drvL Tryz.func71 ?_
         simp only [go_sem, rdr, hz, List.getElem?_cons_zero, List.getElem?_cons_succ, Int.natCast_zero, z01, z02, z12, z11, z22, z00]
         iterate 5 ((try (refine drvZ Tryz.func71 ?_; simp only [go_sem, rdr, hz, hT1x, hb2, hb3, List.getElem?_cons_zero, List.getElem?_cons_succ, Int.natCast_zero, z01, z02, z12, z11, z22, z00])); ((with_reducible and_intros) <;> try exact sd))
         refine XK.callG [0] (hval ps (by omega)) ok136 (hhp_one rfl) (hbT ()) (fun d h' ⟨_, _, _, _, _, _, e⟩ => by subst e; simp) ?_ (fun _ => ⟨by kernel_rfl, _, _, ⟨0, rfl, by omega, ps, by omega, by omega, rfl⟩, by simp⟩)
         rintro _ _ ⟨v, rfl, hv, ps', hp1, hp3, rfl⟩ _
         iterate 5 ((try (refine drvZ Tryz.func71 ?_; simp only [go_sem, rdr, hz, List.getElem?_cons_zero, List.getElem?_cons_succ, Int.natCast_zero, z01, z02, z12, z11, z22, z00, hk4])); ((with_reducible and_intros) <;> try exact sd))
         refine again (k + 1, ps', c.set k v) some [] _ ⟨hlt, (show pos1 ≤ ps' by omega), (show ps' ≤ pos1 + (k + 1) by omega), by rw [List.length_set]; exact hk4, rng_set hk5 hv, fun h => by rw [hb1] at h; cases h⟩ (show 4 - (k + 1) < 4 - k by omega) ?_
         simp only [go_sem, TmOK, DM, DMs, CM, CMs, forall_eq, exists_eq_left, Mq, HpOK, LowOK, rdr]
         simp [CMs_I, CMs_hdr, CMs_b0, CMs_b1, upd]
         try exact CMs.kf (by rw [← List.map_set]; exact kf_I _)
       ·have hz : ((k : Int) < 4) = False := eq_false (by omega)
        clear again
        refine drvL Tryz.func71 ?_
        simp only [go_sem, rdr, hz, List.getElem?_cons_zero, List.getElem?_cons_succ, Int.natCast_zero, z01, z02, z12, z11, z22, z00]
        iterate 3 ((try (refine drvZ Tryz.func71 ?_; simp only [go_sem, rdr, hz, List.getElem?_cons_zero, List.getElem?_cons_succ, Int.natCast_zero, z01, z02, z12, z11, z22, z00])); ((with_reducible and_intros) <;> try exact sd))
        refine Go.inLoop ?_
        refine drvL Tryz.func71 ?_
        simp only [go_sem, rdr, List.getElem?_cons_zero, List.getElem?_cons_succ, Int.natCast_zero, z01, z02, z12, z11, z22, z00]
        iterate 3 ((try (refine drvZ Tryz.func71 ?_; simp only [go_sem, rdr, List.getElem?_cons_zero, List.getElem?_cons_succ, Int.natCast_zero, z01, z02, z12, z11, z22, z00])); ((with_reducible and_intros) <;> try exact sd))
        exact fin [A0, c] ps _ rfl (by omega) (by omega) ⟨rfl, fun j x hj hf => by
         match j, hj with
         | 0, hj => simp only [List.getElem?_cons_zero, Option.some.injEq] at hj; subst hj; simp [hA0 (by simpa using hf)]
         | 1, hj => simp only [List.getElem?_cons_zero, List.getElem?_cons_succ, Option.some.injEq] at hj; subst hj; simp [hk6 (by simpa using hf)]
         | j + 2, hj => simp at hj⟩ (by simp only [List.mem_cons, List.not_mem_nil, or_false, forall_eq_or_imp, forall_eq]; exact ⟨h4A, hk4, hk5⟩) rfl rfl rfl rfl rfl
      ·simp only [go_sem, TmOK, DM, DMs, CM, CMs, forall_eq, exists_eq_left, Mq, HpOK, LowOK, rdr]
       simp [CMs_I, CMs_hdr, CMs_b0, CMs_b1, upd]
    ·simp only [go_sem, TmOK, DM, DMs, CM, CMs, forall_eq, exists_eq_left, Mq, HpOK, LowOK, rdr]
     simp [CMs_I, CMs_hdr, CMs_b0, CMs_b1, upd]
 ·simp only [go_sem, TmOK, DM, DMs, CM, CMs, forall_eq, exists_eq_left, Mq, HpOK, LowOK, rdr]
  simp [CMs_I, CMs_hdr, CMs_b0, CMs_b1, upd]
def trR (β : Nat) (r : D) (h : List (Option (List C))) : Prop := ∃ (p : Pg) (m m' : Mm), r = .tup [.agg p.cells, .agg m.cells, .agg m'.cells] ∧ DrP p ∧ MemFits p m ∧ MemFits p m' ∧ LowM β p m m' ∧ h = []
theorem drawTypedRuns (bs : List Int) (hb : Fits .u8 bs) (hl : bs.length ≤ mx) (β : Nat) (bit : Int) (hβ : (β = 0 ∧ bit = 1) ∨ (β = 1 ∧ bit = 2)) : DC Tryz.prog 29 [bytesD bs, DI .i64 bit] [] (trR β) := by
 have hmx := mx_eq
 have hop := l17Open bs hl
 have hb' := fits_take hb 2000
 have hl' : (bs.take 2000).length ≤ 2000 := by rw [List.length_take]; omega
 generalize hR : trR β = R
 generalize hbs : bs.take 2000 = b2 at *
 unfold bytesD
 unfold bytesD at hop
 refine dcZ Tryz.func29 ?_
 simp only [go_sem]
 ((try (refine drvZ Tryz.func29 ?_; simp only [go_sem])); ((with_reducible and_intros) <;> try exact sd))
 refine XK.callG [] hop ok42 (fun i' x h => by simp at h) (hbT ()) (fun d h' ⟨_, e⟩ => by subst e; simp) ?_
 rintro _ _ ⟨rfl, rfl⟩ _
 iterate 2 ((try (refine drvZ Tryz.func29 ?_; simp only [go_sem, renCs_rdr])); ((with_reducible and_intros) <;> try exact sd))
 have hty := typed b2 0 hb' hl' (by omega)
 refine XK.callG [256] hty ok92 (hhp_one (by simp [upd, renCs_rdr])) (hbT ()) (fun d h' ⟨_, _, _, _, _, _, e⟩ => by subst e; simp) ?_
 rintro _ _ ⟨p, rfl, hp, n1, hn1, hn2, rfl⟩ _
 have hln := prog_len hp.ok
 have hlab := labs_of hp.ok
 have hme := l3Memory b2 n1 p hb' hl' (by omega) ⟨hln.1, hln.2.1⟩ hln.2.2
 have hse := fun n m h1 h2 => secrets b2 n p m hb' hl' h1 h2 hlab.1 hlab.2 β bit hβ
 obtain ⟨vs, ar, bd⟩ := p
 iterate 2 ((try (refine drvZ Tryz.func29 ?_; simp only [go_sem, renCs_rdr])); ((with_reducible and_intros) <;> try exact sd))
 refine XK.callG [256] hme ok70 (hhp_one (by simp [upd, renCs_rdr])) (hbT ()) (fun d h' ⟨_, _, _, _, _, _, e⟩ => by subst e; simp) ?_
 rintro _ _ ⟨m, rfl, hm, n2, hn3, hn4, rfl⟩ _
 have hse := hse n2 m (by omega) hm
 obtain ⟨va, arr⟩ := m
 iterate 3 ((try (refine drvZ Tryz.func29 ?_; simp only [go_sem, renCs_rdr, Mm.cells])); ((with_reducible and_intros) <;> try exact sd))
 refine XK.callG [256] hse ok71 (hhp_one (by simp [upd, renCs_rdr])) (hbT ()) (fun d h' ⟨_, _, _, _, _, _, _, e⟩ => by subst e; simp) ?_ (fun _ => ⟨by kernel_rfl, _, _, ⟨⟨va, arr⟩, rfl, hm, .refl _ _ _, n2, by omega, by omega, rfl⟩, by simp⟩)
 rintro _ _ ⟨m2, rfl, hm2, hlo, n3, hn5, hn6, rfl⟩ _
 obtain ⟨va2, arr2⟩ := m2
 iterate 3 ((try (refine drvZ Tryz.func29 ?_; simp only [go_sem, renCs_rdr, Mm.cells])); ((with_reducible and_intros) <;> try exact sd))
 refine RetOb.ofQ (fun _ => none) [] (.tup [.agg (Pg.cells ⟨vs, ar, bd⟩), .agg (Mm.cells ⟨va, arr⟩), .agg (Mm.cells ⟨va2, arr2⟩)]) [] ?_ (by rw [← hR]; exact ⟨_, _, _, rfl, hp, hm, hm2, hlo, rfl⟩) (by simp)
 simp [enumL, DM, DMs, CM, CMs, HpOK, LowOK, hOf, Pg.cells, Mm.cells, isI]
end Go.Proofs.YtjjjidcbokbhpaaGreat.CtD
namespace Go.Proofs.YtjjjidcbokbhpaaGreat.CtR
open Go Go.CT CtF
end Go.Proofs.YtjjjidcbokbhpaaGreat.CtR
namespace Go.Proofs.YtjjjidcbokbhpaaGreat.CtD
open Go Go.CT CtF CtR
def bl (n N : Nat) : List Bool := (List.range n).map fun i => N.testBit i
def rowsB (w : Nat) (S : List Nat) : List (List C) := S.map fun N => boolsC (bl w N)
theorem rowsB_len (w : Nat) (S : List Nat) : (rowsB w S).length = S.length := by simp [rowsB]
theorem rowsB_kf (w : Nat) (S : List Nat) : ∀ x ∈ rowsB w S, ∀ c ∈ x, kf c = true := fun x hx c hc => by
 obtain ⟨N, _, rfl⟩ := List.mem_map.1 hx; exact boolsC_kf _ c hc
theorem fam_row {hp : Hp} {b w i : Nat} {S : List Nat} {row : List C} (hS : S.length ≤ 32) (h : (rowsB w S)[i]? = some row) : fam hp b (rowsB w S) (b + i) = some (some row) := by
 have := (List.getElem?_eq_some_iff.1 h).1
 rw [rowsB_len] at this
 rw [fam_at (by omega), h]; rfl
theorem SubH.rows {m : Nat} {r : Nat → Option Nat} {hl : List (Nat × Option (List C))} {hp : Hp} {b b' w : Nat} {S : List Nat} (hS : S.length ≤ 32) (hr : ∀ i, i < S.length → r (b + i) = some (b' + i))
 (hok : HpOK (fam (hOf hl) b (rowsB w S)) r (fam hp b' (rowsB w S)) [] hl) (hlow : LowOK r (fam (hOf hl) b (rowsB w S)) m) (hnd : ((hl.filterMap fun p => p.2.map fun _ => p.1).filterMap r).Nodup)
 (hdis : ∀ p ∈ hl, ∀ j, r p.1 = some j → j < b' ∨ b' + 32 ≤ j) : SubH m r [] (fam (hOf hl) b (rowsB w S)) (fam hp b' (rowsB w S)) := by
 have hl0 := rowsB_len w S
 refine SubH.fam (fun n => b' + n) (fun i hi => hr i (by omega)) (fun i j hi hj h => by omega) (fun i hi => by simp) (fun i row hi => fam_row hS hi) (rowsB_kf w S) hok hlow hnd ?_
 intro k j cs hm hj i hi e
 have := hdis _ hm j hj
 omega
theorem sownLE (ks : List Ex) (hlk : ks.length ≤ 3) (ih : ∀ e ∈ ks, DC Tryz.prog 227 [.agg e.cells] [] (fun r h => r = .agg e.cells ∧ h = [])) : DC Tryz.prog 243 [.c (.isl 3 (Ex.cellsL ks))] [] (fun r h => r = .c (.isl 3 (Ex.cellsL ks)) ∧ h = []) := by
 have hmx := mx_eq
 refine dcZ Tryz.func243 ?_
 simp only [go_sem]
 iterate 2 ((try (refine drvZ Tryz.func243 ?_; simp only [go_sem])); ((with_reducible and_intros) <;> try exact sd))
 refine Go.loopQ (fun i : Nat => [(3, .c (.msl 64 3 0 i)), (7, .c (.isl 3 (Ex.cellsL ks))), (8, DI .i64 ks.length), (9, DI .i64 i)]) (fun i => [(64, some (exC (ks.take i)))])
  4096 (fun i => i ≤ ks.length) (fun i => ks.length - i) ?_ 0 some [] _ (Nat.zero_le _) ?_
 ·intro i hi again
  rcases Nat.lt_or_ge i ks.length with hlt | hge
  ·obtain ⟨⟨k', v', ks'⟩, hx⟩ : ∃ x, ks[i]? = some x := ⟨ks[i], by simp [hlt]⟩
   have hsx : ks.take (i + 1) = ks.take i ++ [.mk k' v' ks'] := by rw [List.take_add_one, hx]; rfl
   have hel : (exC (ks.take i)).length = i * 3 := by rw [exC_len, List.length_take]; congr 1; omega
   have hih := ih _ (List.mem_of_getElem? hx)
   refine drvL Tryz.func243 ?_
   simp only [go_sem, hx, hlt]
   iterate 6 ((try (refine drvZ Tryz.func243 ?_; simp only [go_sem, hx, hlt])); ((with_reducible and_intros) <;> try exact sd); (try first | refine XK.p hih ok227 ?_ | refine XK.gp hih ok227 ?_))
   refine again (i + 1) (fun j => if j = 64 then some 4672 else some j) [] _ hlt (by omega) ?_
   simp only [go_sem, TmOK, DM, DMs, CM, CMs, forall_eq, exists_eq_left, Mq, HpOK, LowOK, hsx, exC_snoc]
   simp
   exact CMs.kf (kf_app (exC_kf _) (by simp [kf]))
  ·have hn : ¬ i < ks.length := by omega
   obtain rfl : i = ks.length := by omega
   refine drvL Tryz.func243 ?_
   simp only [go_sem, hn, List.take_length]
   iterate 2 ((try (refine drvZ Tryz.func243 ?_; simp only [go_sem, hn, List.take_length])); ((with_reducible and_intros) <;> try exact sd))
   refine RetOb.ofQ (fun j => none) [64] (.c (.isl 3 (Ex.cellsL ks))) [] ?_ ⟨rfl, rfl⟩ (by simp)
   have g1 : (Ex.cellsL ks).flatten = exC ks := by rw [Ex.cellsL_eq]; rfl
   have g2 : ∀ x ∈ Ex.cellsL ks, x.length = 3 := fun x hx => by rw [Ex.cellsL_eq] at hx; obtain ⟨e, _, rfl⟩ := List.mem_map.1 hx; exact Ex.cells_len e
   have g3 : ∀ x ∈ Ex.cellsL ks, ∀ c ∈ x, kf c = true := fun x hx => by rw [Ex.cellsL_eq] at hx; obtain ⟨e, _, rfl⟩ := List.mem_map.1 hx; exact ex_kf e
   simp only [enumL, hOf, DM, DMs, CM, CMs, HpOK, LowOK, upd, Ex.cells, Ex.cellsL_length, g1]
   first | (simp; exact ⟨g2, g3⟩) | (simp [g2]; exact g3) | exact ⟨g2, g3⟩
 ·simp only [go_sem, TmOK, DM, DMs, CM, CMs, forall_eq, exists_eq_left, Mq, HpOK, LowOK]
  simp [exC, CMs]
theorem sownE (e : Ex) (he : SmE e) : DC Tryz.prog 227 [.agg e.cells] [] (fun r h => r = .agg e.cells ∧ h = []) := by
 have hmx := mx_eq
 induction he with
 | mk k v ks hlen hall ih =>
  have ih := sownLE ks hlen ih
  refine dcZ Tryz.func227 ?_
  simp only [go_sem]
  iterate 4 ((try (refine drvZ Tryz.func227 ?_; simp only [go_sem])); ((with_reducible and_intros) <;> try exact sd); (try first | refine XK.p ih ok243 ?_ | refine XK.gp ih ok243 ?_))
  exact RetOb.plain ⟨rfl, rfl⟩ (by simp [kD, kf])
theorem sownSO (k t : Int) (ix v : Ex) (c : Int) (b e : List St1) (h1 : SmE ix) (h2 : SmE v) (hb : DC Tryz.prog 116 [.c (.isl 11 (St1.cellsL b))] [] (fun r h => r = .c (.isl 11 (St1.cellsL b)) ∧ h = []))
 (he : DC Tryz.prog 116 [.c (.isl 11 (St1.cellsL e))] [] (fun r h => r = .c (.isl 11 (St1.cellsL e)) ∧ h = [])) : DC Tryz.prog 179 [.agg (St1.cells (.mk k t ix v c b e))] [] (fun r h => r = .agg (St1.cells (.mk k t ix v c b e)) ∧ h = []) := by
 have hmx := mx_eq
 obtain ⟨ik, iv, iks⟩ := ix
 obtain ⟨vk, vv, vks⟩ := v
 have hi := sownE _ h1
 have hv := sownE _ h2
 simp only [Ex.cells] at hi hv
 refine dcZ Tryz.func179 ?_
 simp only [go_sem]
 iterate 8 ((try (refine drvZ Tryz.func179 ?_; simp only [go_sem])); ((with_reducible and_intros) <;> try exact sd); (try first | refine XK.p hi ok227 ?_ | refine XK.gp hi ok227 ?_ | refine XK.p hv ok227 ?_ | refine XK.gp hv ok227 ?_ | refine XK.p hb ok116 ?_ | refine XK.gp hb ok116 ?_ | refine XK.p he ok116 ?_ | refine XK.gp he ok116 ?_))
 exact RetOb.plain ⟨rfl, rfl⟩ (by simp [kD, kf])
theorem sownLS (l : List St1) (hl : l.length ≤ 1000000) (ih : ∀ s ∈ l, DC Tryz.prog 179 [.agg s.cells] [] (fun r h => r = .agg s.cells ∧ h = [])) : DC Tryz.prog 116 [.c (.isl 11 (St1.cellsL l))] [] (fun r h => r = .c (.isl 11 (St1.cellsL l)) ∧ h = []) := by
 have hmx := mx_eq
 refine dcZ Tryz.func116 ?_
 simp only [go_sem]
 iterate 2 ((try (refine drvZ Tryz.func116 ?_; simp only [go_sem])); ((with_reducible and_intros) <;> try exact sd))
 refine Go.loopQ (fun i : Nat => [(3, .c (.msl 64 11 0 i)), (7, .c (.isl 11 (St1.cellsL l))), (8, DI .i64 l.length), (9, DI .i64 i)]) (fun i => [(64, some (stC (l.take i)))])
  4096 (fun i => i ≤ l.length) (fun i => l.length - i) ?_ 0 some [] _ (Nat.zero_le _) ?_
 ·intro i hi again
  rcases Nat.lt_or_ge i l.length with hlt | hge
  ·obtain ⟨⟨k, t, ⟨ik, iv, iks⟩, ⟨vk, vv, vks⟩, c, b, e⟩, hx⟩ : ∃ x, l[i]? = some x := ⟨l[i], by simp [hlt]⟩
   have hsx : l.take (i + 1) = l.take i ++ [.mk k t (.mk ik iv iks) (.mk vk vv vks) c b e] := by rw [List.take_add_one, hx]; rfl
   have hel : (stC (l.take i)).length = i * 11 := by rw [stC_len, List.length_take]; congr 1; omega
   have hih := ih _ (List.mem_of_getElem? hx)
   simp only [St1.cells, Ex.cells, List.cons_append, List.nil_append] at hih
   refine drvL Tryz.func116 ?_
   simp only [go_sem, hx, hlt]
   iterate 6 ((try (refine drvZ Tryz.func116 ?_; simp only [go_sem, hx, hlt])); ((with_reducible and_intros) <;> try exact sd); (try first | refine XK.p hih ok179 ?_ | refine XK.gp hih ok179 ?_))
   refine again (i + 1) (fun j => if j = 64 then some 4672 else some j) [] _ hlt (by omega) ?_
   simp only [go_sem, TmOK, DM, DMs, CM, CMs, forall_eq, exists_eq_left, Mq, HpOK, LowOK, hsx, stC_snoc, List.cons_append, List.nil_append]
   simp
   exact CMs.kf (kf_app (stC_kf _) (by simp [kf]))
  ·have hn : ¬ i < l.length := by omega
   obtain rfl : i = l.length := by omega
   refine drvL Tryz.func116 ?_
   simp only [go_sem, hn, List.take_length]
   iterate 2 ((try (refine drvZ Tryz.func116 ?_; simp only [go_sem, hn, List.take_length])); ((with_reducible and_intros) <;> try exact sd))
   refine RetOb.ofQ (fun j => none) [64] (.c (.isl 11 (St1.cellsL l))) [] ?_ ⟨rfl, rfl⟩ (by simp)
   have g1 : (St1.cellsL l).flatten = stC l := by rw [St1.cellsL_eq]; rfl
   have g2 : ∀ x ∈ St1.cellsL l, x.length = 11 := fun x hx => by rw [St1.cellsL_eq] at hx; obtain ⟨e, _, rfl⟩ := List.mem_map.1 hx; exact St1.cells_len e
   have g3 : ∀ x ∈ St1.cellsL l, ∀ c ∈ x, kf c = true := fun x hx => by rw [St1.cellsL_eq] at hx; obtain ⟨e, _, rfl⟩ := List.mem_map.1 hx; exact st_kf e
   simp only [enumL, hOf, DM, DMs, CM, CMs, HpOK, LowOK, upd, St1.cellsL_length, g1]
   first | (simp; exact ⟨g2, g3⟩) | (simp [g2]; exact g3) | exact ⟨g2, g3⟩
 ·simp only [go_sem, TmOK, DM, DMs, CM, CMs, forall_eq, exists_eq_left, Mq, HpOK, LowOK]
  simp [stC, CMs]
end Go.Proofs.YtjjjidcbokbhpaaGreat.CtD
namespace Go.Proofs.YtjjjidcbokbhpaaGreat.CtR
open Go Go.CT CtF
def idxE (q : Ex → Bool) : List Ex → Int → Int
 | [], _ => -1
 | x :: r, i => if q x then i else idxE q r (i + 1)
theorem idxE_any (q : Ex → Bool) : ∀ (xs : List Ex) (i : Int), 0 ≤ i → decide (0 ≤ idxE q xs i) = xs.any q
 | [], i, _ => by simp [idxE]
 | x :: r, i, h => by
  unfold idxE
  by_cases hq : q x = true
  ·simp [hq, h]
  ·simp only [hq, Bool.false_eq_true, if_false, List.any_cons, Bool.not_eq_true] at *
   rw [idxE_any q r (i + 1) (by omega)]; simp [hq]
theorem indexFuncE (g : Nat) (q : Ex → Bool) (p : Pg) (xs : List Ex) (hl : xs.length ≤ 3) (hok : fnOK Tryz.prog g = true) (hg : ∀ e ∈ xs, DC Tryz.prog g [.agg p.cells, .agg e.cells] [] (fun d h => d = DB (q e) ∧ h = [])) :
 DC Tryz.prog 239 [.c (.isl 3 (Ex.cellsL xs)), .c (.met g p.cells)] [] (fun d h => d = DI .i64 (idxE q xs 0) ∧ h = []) := by
 have hmx := mx_eq
 have ret : ∀ (n : Int) (hp : Hp), n = idxE q xs 0 → RetOb 0 (fun d h => d = DI .i64 (idxE q xs 0) ∧ h = []) (DI .i64 n) hp := fun n hp h => RetOb.plain (d := DI .i64 _) ⟨by rw [h], rfl⟩ rfl
 generalize hR : (fun (d : D) (h : List (Option (List C))) => d = DI .i64 (idxE q xs 0) ∧ h = []) = R at ret ⊢
 clear hR
 obtain ⟨vs, ar, bd⟩ := p
 refine dcZ Tryz.func239 ?_
 simp only [go_sem]
 ((try (refine drvZ Tryz.func239 ?_; simp only [go_sem])); ((with_reducible and_intros) <;> try exact sd))
 refine Go.loopQ (fun i : Nat => [(0, .c (.isl 3 (Ex.cellsL xs))), (1, .c (.met g (Pg.cells ⟨vs, ar, bd⟩))), (7, DI .i64 xs.length), (8, DI .i64 i)]) (fun _ => []) 1024 (fun i => i ≤ xs.length ∧ idxE q (xs.drop i) i = idxE q xs 0) (fun i => xs.length - i) ?_ 0 some [] _ ⟨Nat.zero_le _, rfl⟩ ?_
 ·intro i hi again
  rcases Nat.lt_or_ge i xs.length with hlt | hge
  ·obtain ⟨⟨k, v, ks⟩, hx⟩ : ∃ x, xs[i]? = some x := ⟨xs[i], by simp [hlt]⟩
   have hgx := hg _ (List.mem_of_getElem? hx)
   have hdrop : xs.drop i = .mk k v ks :: xs.drop (i + 1) := by
    obtain ⟨_, e⟩ := List.getElem?_eq_some_iff.1 hx
    rw [List.drop_eq_getElem_cons hlt, e]
   have hI := hi.2
   rw [hdrop] at hI
   simp only [idxE] at hI
   cases hq : q (.mk k v ks) with
   | true =>
    rw [hq] at hgx hI
    refine drvL Tryz.func239 ?_
    simp only [go_sem, hx, hlt]
    iterate 3 ((try (refine drvZ Tryz.func239 ?_; simp only [go_sem, hx, hlt])); ((with_reducible and_intros) <;> try exact sd); (try first | refine XK.p hgx hok ?_ | refine XK.gp hgx hok ?_))
    exact ret _ _ (by simpa using hI)
   | false =>
    rw [hq] at hgx hI
    refine drvL Tryz.func239 ?_
    simp only [go_sem, hx, hlt]
    iterate 4 ((try (refine drvZ Tryz.func239 ?_; simp only [go_sem, hx, hlt])); ((with_reducible and_intros) <;> try exact sd); (try first | refine XK.p hgx hok ?_ | refine XK.gp hgx hok ?_))
    refine again (i + 1) some [] _ ⟨hlt, by simpa using hI⟩ (by omega) ?_
    simp only [go_sem, TmOK, DM, DMs, CM, CMs, forall_eq, exists_eq_left, Mq, HpOK, LowOK]
    try simp
  ·have hn : ¬ i < xs.length := by omega
   refine drvL Tryz.func239 ?_
   simp only [go_sem, hn]
   iterate 3 ((try (refine drvZ Tryz.func239 ?_; simp only [go_sem, hn])); ((with_reducible and_intros) <;> try exact sd))
   refine ret _ _ ?_
   rw [← hi.2, List.drop_of_length_le hge]; rfl
 ·simp only [go_sem, TmOK, DM, DMs, CM, CMs, forall_eq, exists_eq_left, Mq, HpOK, LowOK]
  try simp
theorem containsFuncE (g : Nat) (q : Ex → Bool) (p : Pg) (xs : List Ex) (hl : xs.length ≤ 3) (hok : fnOK Tryz.prog g = true) (hg : ∀ e ∈ xs, DC Tryz.prog g [.agg p.cells, .agg e.cells] [] (fun d h => d = DB (q e) ∧ h = [])) :
 DC Tryz.prog 221 [.c (.isl 3 (Ex.cellsL xs)), .c (.met g p.cells)] [] (fun d h => d = DB (xs.any q) ∧ h = []) := by
 have hif := indexFuncE g q p xs hl hok hg
 have hia := idxE_any q xs 0 (by omega)
 rw [← hia]
 generalize idxE q xs 0 = n at *
 obtain ⟨vs, ar, bd⟩ := p
 refine dcZ Tryz.func221 ?_
 simp only [go_sem]
 iterate 3 ((try (refine drvZ Tryz.func221 ?_; simp only [go_sem])); ((with_reducible and_intros) <;> try exact sd); (try first | refine XK.p hif ok239 ?_ | refine XK.gp hif ok239 ?_))
 exact RetOb.plain (d := DB _) ⟨rfl, rfl⟩ rfl
theorem secretReadI (p : Pg) (hl : p.vars.length ≤ mx) (hl2 : p.arrays.length ≤ mx) (h1 : lab3 p.vars) (h2 : lab3 p.arrays) : ∀ (d : Nat) (e : Ex), shape p d e = true →
 DC Tryz.prog 168 [.agg p.cells, .agg e.cells] [] (fun r h => r = DB (secE p.vars p.arrays d e) ∧ h = []) := by
 have hmx := mx_eq
 intro d
 induction d with
 | zero => intro e h; simp [shape] at h
 | succ d ih =>
  intro e hsh
  obtain ⟨k, v, ks⟩ := e
  obtain ⟨g1, g2, g3⟩ := shape_succ hsh
  obtain ⟨hl3, hla, hv0, hv1⟩ := fits_len g1
  have hcf := containsFuncE 168 (secE p.vars p.arrays d) p ks hl3 ok168 (fun e he => ih e (g2 e he))
  have hlb := labelI p hl hl2 h1 h2 d
  have hle := labN_le h1 h2 d
  have ret : ∀ (b : Bool) (hp : Hp), b = secE p.vars p.arrays (d + 1) (.mk k v ks) → RetOb 0 (fun r h => r = DB (secE p.vars p.arrays (d + 1) (.mk k v ks)) ∧ h = []) (DB b) hp := fun b hp h => RetOb.plain (d := DB _) ⟨by rw [h], rfl⟩ rfl
  generalize hR : (fun (r : D) (h : List (Option (List C))) => r = DB (secE p.vars p.arrays (d + 1) (.mk k v ks)) ∧ h = []) = R at ret ⊢
  clear hR
  simp only [secE] at ret
  generalize hany : ks.any (secE p.vars p.arrays d) = an at *
  obtain ⟨vs, ar, bd⟩ := p
  by_cases hk : k = 3
  ·subst hk
   have h1' : ks.length = 1 := by simp [arity] at hla; omega
   match ks, h1' with
   | [a], _ =>
    have hlv := hlb a (g2 a (by simp))
    have hlvl := hle a
    simp only [kid0, beq_self_eq_true, Bool.true_and] at ret
    generalize labN vs ar d a = lv at *
    have hse := labelSecretI lv hlvl
    generalize secL lv = s at *
    obtain ⟨ak, av, aks⟩ := a
    simp only [Ex.cellsL, List.length_cons, List.length_nil] at hcf
    cases s with
    | true =>
     refine dcZ Tryz.func168 ?_
     simp only [go_sem, Ex.cellsL]
     iterate 6 ((try (refine drvZ Tryz.func168 ?_; simp only [go_sem, Ex.cellsL, beq_self_eq_true])); ((with_reducible and_intros) <;> try exact sd); (try first | refine XK.p hlv ok167 ?_ | refine XK.gp hlv ok167 ?_ | refine XK.p hse ok166 ?_ | refine XK.gp hse ok166 ?_ | refine XK.gs (DB false) ?_))
     exact ret _ _ (by simp)
    | false =>
     refine dcZ Tryz.func168 ?_
     simp only [go_sem, Ex.cellsL]
     iterate 6 ((try (refine drvZ Tryz.func168 ?_; simp only [go_sem, Ex.cellsL, beq_self_eq_true])); ((with_reducible and_intros) <;> try exact sd); (try first | refine XK.p hlv ok167 ?_ | refine XK.gp hlv ok167 ?_ | refine XK.p hse ok166 ?_ | refine XK.gp hse ok166 ?_ | refine XK.p hcf ok221 ?_ | refine XK.gp hcf ok221 ?_))
     exact ret _ _ (by simp)
  ·have ek : (k == 3) = false := by simp [hk]
   have fk : (k = 3) = False := eq_false hk
   rw [ek] at ret
   cases ks with
   | nil =>
    refine dcZ Tryz.func168 ?_
    simp only [go_sem, Ex.cellsL, ek, fk]
    iterate 6 ((try (refine drvZ Tryz.func168 ?_; simp only [go_sem, Ex.cellsL, ek, fk])); ((with_reducible and_intros) <;> try exact sd); (try first | refine XK.p hcf ok221 ?_ | refine XK.gp hcf ok221 ?_ | refine XK.gs (DB false) ?_ | refine XK.gs (DI .i64 0) ?_))
    exact ret _ _ (by simp)
   | cons a r =>
    obtain ⟨ak, av, aks⟩ := a
    refine dcZ Tryz.func168 ?_
    simp only [go_sem, Ex.cellsL, ek, fk]
    iterate 6 ((try (refine drvZ Tryz.func168 ?_; simp only [go_sem, Ex.cellsL, ek, fk])); ((with_reducible and_intros) <;> try exact sd); (try first | refine XK.p hcf ok221 ?_ | refine XK.gp hcf ok221 ?_ | refine XK.gs (DB false) ?_ | refine XK.gs (DI .i64 0) ?_))
    exact ret _ _ (by simp)
end Go.Proofs.YtjjjidcbokbhpaaGreat.CtR
