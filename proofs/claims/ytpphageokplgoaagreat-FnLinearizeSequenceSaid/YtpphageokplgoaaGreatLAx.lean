/- Contracts of functions of the program, one behind the other, as plain data: what each call returns and which blocks it leaves. -/
import Derived.Test.YtpphageokplgoaaGreatLFacts
import Derived.Test.YtpphageokplgoaaGreatLAj
import Derived.Test.YtpphageokplgoaaGreatLAk
import Derived.Test.YtpphageokplgoaaGreatLAm
import Derived.Test.YtpphageokplgoaaGreatLAn
import Derived.Test.YtpphageokplgoaaGreatLAp
import Derived.Test.YtpphageokplgoaaGreatLAr
import Derived.Test.YtpphageokplgoaaGreatLAs
import Derived.Test.YtpphageokplgoaaGreatLAt
import Derived.Test.YtpphageokplgoaaGreatLAw
import Derived.Test.YtpphageokplgoaaGreatLAq
set_option linter.unusedVariables false
set_option linter.unusedSimpArgs false
set_option maxHeartbeats 16000000
set_option maxRecDepth 100000
namespace Go.Proofs.YtpphageokplgoaaGreat.CtD
open Go Go.CT CtF CtR
structure LowV {α : Type} (β : Nat) (ls : List Int) (a a' : List α) : Prop where
 len : a'.length = a.length
 eq : ∀ (j : Nat) (x : Int), ls[j]? = some x → x.toNat.testBit β = false → a[j]? = a'[j]?
theorem LowV.refl {α : Type} (β : Nat) (ls : List Int) (a : List α) : LowV β ls a a := ⟨rfl, fun _ _ _ _ => rfl⟩
theorem LowV.set {α : Type} {β : Nat} {ls : List Int} {a a' : List α} (h : LowV β ls a a') {i : Nat} {x : Int} (hx : ls[i]? = some x) (hb : x.toNat.testBit β = true) (v : α) : LowV β ls a (a'.set i v) :=
 ⟨by rw [List.length_set, h.len], fun j y hy hf => by
  rw [List.getElem?_set]
  by_cases e : i = j
  ·subst e; rw [hx] at hy; cases hy; rw [hb] at hf; cases hf
  ·rw [if_neg e]; exact h.eq j y hy hf⟩
theorem rng_set {l : List Int} (h : ∀ y ∈ l, 0 ≤ y ∧ y ≤ 255) {i : Nat} {v : Int} (hv : 0 ≤ v ∧ v ≤ 255) : ∀ y ∈ l.set i v, 0 ≤ y ∧ y ≤ 255 := fun y hy => by
 rcases List.mem_or_eq_of_mem_set hy with h1 | rfl
 ·exact h y h1
 ·exact hv
def seR (β : Nat) (p : Pg) (m : Mm) (bs : List Int) (n : Nat) (r : D) (h : List (Option (List C))) : Prop := ∃ m' : Mm, r = .agg m'.cells ∧ MemFits p m' ∧ LowM β p m m' ∧ rdL bs n 30 h
theorem bitB {β : Nat} {bit : Int} (hβ : (β = 0 ∧ bit = 1) ∨ (β = 1 ∧ bit = 2)) {T : Nat} (hT : T ≤ 3) : ∃ b : Bool, T.testBit β = b ∧ ((((T &&& bit.toNat : Nat) : Int) = 0) = (b = false)) ∧ ((((T &&& bit.toNat : Nat) : Int) != 0) = b) := by
 rcases hβ with ⟨rfl, rfl⟩ | ⟨rfl, rfl⟩ <;> rcases le3 hT with rfl | rfl | rfl | rfl <;> refine ⟨_, rfl, ?_, ?_⟩ <;> decide
theorem secrets (bs : List Int) (n : Nat) (p : Pg) (m : Mm) (hb : Fits .u8 bs) (hl : bs.length ≤ 2000) (hn : n ≤ 274877906944) (hm : MemFits p m) (h1 : lab3 p.vars) (h2 : lab3 p.arrays) (β : Nat) (bit : Int) (hβ : (β = 0 ∧ bit = 1) ∨ (β = 1 ∧ bit = 2)) :
 DC Tryz.prog 74 [.c (.ptr 0 0), .agg p.cells, .agg m.cells, DI .i64 bit] [some (rdr bs n)] (seR β p m bs n) := by
 have hmx := mx_eq
 have hval := fun n h => l3Value bs n hb hl h
 have hcp := l3Copy m (by have := hm.nv; have := hm.nv12; omega) (by have := hm.na; have := hm.na2; omega) (fun a h => (hm.arr a h).1)
 have hbv : ∀ x : Int, 0 ≤ x ∧ x ≤ 3 → ∃ T : Nat, T ≤ 3 ∧ x = (T : Int) := fun x hx => ⟨x.toNat, by omega, by omega⟩
 have hbit0 : 0 ≤ bit ∧ bit ≤ 2 := by omega
 generalize hR : seR β p m bs n = R
 unfold memB at hcp
 have hnv := hm.nv
 have hna := hm.na
 have hnv12 := hm.nv12
 have hna2 := hm.na2
 have hva := hm.val
 have har := hm.arr
 obtain ⟨vs, ar, bd⟩ := p
 obtain ⟨va, arr⟩ := m
 simp only at hnv hna hnv12 hna2 hva har h1 h2
 refine dcZ Tryz.func74 ?_
 simp (maxSteps := 9999999) only [go_sem, Mm.cells, rdr]
 ((try (refine drvZ Tryz.func74 ?_; simp (maxSteps := 9999999) only [go_sem, Mm.cells, rdr])); (try ((with_reducible refine And.intro ?_ ?_) <;> (repeat' with_reducible apply And.intro) <;> try exact sd)))
 refine XK.callG [] hcp ok111 (fun i' x h => by simp at h) (hbT ()) (fun d h' ⟨_, e⟩ => by subst e; simp) ?_
 rintro _ _ ⟨rfl, rfl⟩ _
 iterate 3 ((try (refine drvZ Tryz.func74 ?_; simp (maxSteps := 9999999) only [go_sem, renCs_I, renCs_hdr, renCs_b0, renCs_b1, rdr])); (try ((with_reducible refine And.intro ?_ ?_) <;> (repeat' with_reducible apply And.intro) <;> try exact sd)))
 refine Go.loopQ (fun x : Nat × Nat × List Int => [(0, .c (.ptr 0 0)), (3, DI .i64 bit), (5, .c (.ptr 1 0)), (8, .c (.ptr 129 0)), (9, .c (.ptr 321 0)), (10, DI .i64 x.1)])
  (fun x => [(0, some (rdr bs x.2.1)), (1, some (Pg.cells ⟨vs, ar, bd⟩)), (129, some [.v (.slice none 0 0), .v (.slice none 0 0)]), (257, some (x.2.2.map I64)), (258, some (hdr 259 260 arr.length)), (259, some (blk0 arr)), (260, some (blk1 arr)), (321, some [.msl 257 1 0 va.length, .msl 258 1 0 arr.length])])
  4096 (fun x => x.1 ≤ vs.length ∧ n ≤ x.2.1 ∧ x.2.1 ≤ n + x.1 ∧ (∀ y ∈ x.2.2, 0 ≤ y ∧ y ≤ 255) ∧ LowV β vs va x.2.2) (fun x => vs.length - x.1) ?_ (0, n, va) some [] _ ⟨Nat.zero_le _, Nat.le_refl _, Nat.le_refl _, hva, .refl _ _ _⟩ ?_
 ·rintro ⟨i, pos, S⟩ ⟨hi1, hi2, hi3, hi4, hi5⟩ again
  simp only at hi1 hi2 hi3 hi4 hi5
  have hSl := hi5.len
  rcases Nat.lt_or_ge i vs.length with hlt | hge
  ·obtain ⟨x, hx⟩ : ∃ x, vs[i]? = some x := ⟨vs[i], by simp [hlt]⟩
   obtain ⟨T, hT, rfl⟩ := hbv x (h1 x (List.mem_of_getElem? hx))
   have hlt2 : i < va.length := by omega
   obtain ⟨bb, hb1, hb2, hb3⟩ := bitB hβ hT
   cases bb with
   | false =>
    refine drvL Tryz.func74 ?_
    simp (maxSteps := 9999999) only [go_sem, rdr, hlt, hlt2]
    iterate 5 ((try (refine drvZ Tryz.func74 ?_; simp (maxSteps := 9999999) only [go_sem, rdr, hlt, hlt2, hx, hb2, hb3])); (try ((with_reducible refine And.intro ?_ ?_) <;> (repeat' with_reducible apply And.intro) <;> try exact sd)))
    refine again (i + 1, pos, S) some [] _ ⟨hlt, hi2, (show pos ≤ n + (i + 1) by omega), hi4, hi5⟩ (show vs.length - (i + 1) < vs.length - i by omega) ?_
    simp (maxSteps := 9999999) only [go_sem, TmOK, DM, DMs, CM, CMs, forall_eq, exists_eq_left, Mq, HpOK, LowOK, rdr]
    simp [CMs_I, CMs_hdr, CMs_b0, CMs_b1, upd]
   | true =>
    refine drvL Tryz.func74 ?_
    simp (maxSteps := 9999999) only [go_sem, rdr, hlt, hlt2]
    iterate 5 ((try (refine drvZ Tryz.func74 ?_; simp (maxSteps := 9999999) only [go_sem, rdr, hlt, hlt2, hx, hb2, hb3])); (try ((with_reducible refine And.intro ?_ ?_) <;> (repeat' with_reducible apply And.intro) <;> try exact sd)))
    refine XK.callG [0] (hval pos (by omega)) ok120 (hhp_one rfl) (hbT ()) (fun d h' ⟨_, _, _, _, _, _, e⟩ => by subst e; simp) ?_ (fun _ => ⟨by kernel_rfl, _, _, ⟨0, rfl, by omega, pos, by omega, by omega, rfl⟩, by simp⟩)
    rintro _ _ ⟨v, rfl, hv, pos', hp1, hp3, rfl⟩ _
    iterate 5 ((try (refine drvZ Tryz.func74 ?_; simp (maxSteps := 9999999) only [go_sem, rdr, hlt, hlt2])); (try ((with_reducible refine And.intro ?_ ?_) <;> (repeat' with_reducible apply And.intro) <;> try exact sd)))
    refine again (i + 1, pos', S.set i v) some [] _ ⟨hlt, (show n ≤ pos' by omega), (show pos' ≤ n + (i + 1) by omega), rng_set hi4 hv, hi5.set hx (by simpa using hb1) v⟩ (show vs.length - (i + 1) < vs.length - i by omega) ?_
    simp (maxSteps := 9999999) only [go_sem, TmOK, DM, DMs, CM, CMs, forall_eq, exists_eq_left, Mq, HpOK, LowOK, rdr]
    simp [CMs_I, CMs_hdr, CMs_b0, CMs_b1, upd]
    try exact CMs.kf (by rw [← List.map_set]; exact kf_I _)
  ·have hn1 : ¬ i < va.length := by omega
   have hn2 : ¬ i < vs.length := by omega
   have z00 : ((0 : Int) < 0) = False := eq_false (by omega)
   have z01 : ((0 : Int) < 1) = True := eq_true (by omega)
   have z02 : ((0 : Int) < 2) = True := eq_true (by omega)
   have z12 : ((1 : Int) < 2) = True := eq_true (by omega)
   have z11 : ((1 : Int) < 1) = False := eq_false (by omega)
   have z22 : ((2 : Int) < 2) = False := eq_false (by omega)
   clear again
   have fin : ∀ (A : List (List Int)) (ps : Nat) (hp : Hp), A.length = arr.length → pos ≤ ps → ps ≤ pos + 8 → LowV β ar arr A → (∀ a ∈ A, a.length = 4 ∧ ∀ y ∈ a, 0 ≤ y ∧ y ≤ 255) → hp 0 = some (some (rdr bs ps)) → hp 257 = some (some (S.map I64)) → hp 258 = some (some (hdr 259 260 arr.length)) → hp 259 = some (some (blk0 A)) → hp 260 = some (some (blk1 A)) →
    RetOb 1 R (.agg [.msl 257 1 0 va.length, .msl 258 1 0 arr.length]) hp := fun A ps hp e1 e2 e3 e4 e5 g0 g1 g2 g3 g4 =>
    RetOb.memK (m := ⟨S, A⟩) (k2 := 259) (k3 := 260) (by simp only; omega) (by
     rw [← hR]
     exact ⟨⟨S, A⟩, rfl, ⟨by simp only; omega, by simp only; omega, hnv12, hna2, hi4, e5⟩, ⟨by simp only; omega, by simp only; omega, hi5.eq, e4.eq⟩, ps, by omega, by omega, rfl⟩) (rdr_kf bs ps) g0 g1 (by rw [g2, ← e1, hdr_hdA _ _ _ (by omega) (fun a h => (e5 a h).1)]) g3 g4 (by simp only; omega) (by simp only; omega) (by decide)
   refine drvL Tryz.func74 ?_
   simp (maxSteps := 9999999) only [go_sem, rdr, hn1, hn2]
   iterate 3 ((try (refine drvZ Tryz.func74 ?_; simp (maxSteps := 9999999) only [go_sem, rdr, hn1, hn2])); (try ((with_reducible refine And.intro ?_ ?_) <;> (repeat' with_reducible apply And.intro) <;> try exact sd)))
   rcases arr with _ | ⟨a, _ | ⟨b, _ | ⟨c, r⟩⟩⟩ <;> rcases ar with _ | ⟨l, _ | ⟨l', _ | ⟨l3, r2⟩⟩⟩ <;> simp only [List.length_cons, List.length_nil] at hna hna2 <;> (try (exfalso; omega))
   ·refine Go.loop ?_
    refine drvL Tryz.func74 ?_
    simp (maxSteps := 9999999) only [go_sem, rdr, List.getElem?_cons_zero, List.getElem?_cons_succ, Int.natCast_zero, z01, z02, z12, z11, z22, z00]
    iterate 3 ((try (refine drvZ Tryz.func74 ?_; simp (maxSteps := 9999999) only [go_sem, rdr, List.getElem?_cons_zero, List.getElem?_cons_succ, Int.natCast_zero, z01, z02, z12, z11, z22, z00])); (try ((with_reducible refine And.intro ?_ ?_) <;> (repeat' with_reducible apply And.intro) <;> try exact sd)))
    exact fin [] pos _ rfl (by omega) (by omega) (.refl _ _ _) (by simp) rfl rfl rfl rfl rfl
   ·obtain ⟨T0, hT0, rfl⟩ := hbv l (h2 l (by simp))
    have hT0x : ([((T0 : Nat) : Int)] : List Int)[0]? = some (T0 : Int) := rfl
    have h4a := har a (by simp)
    have hb0 : blk0 [a] = a.map I64 := rfl
    have hb1 : blk1 [a] = [] := rfl
    have hh1 : hdr 259 260 1 = [.msl 259 1 0 4] := rfl
    obtain ⟨pos0, hpos0⟩ : ∃ p, p = pos := ⟨pos, rfl⟩
    subst hpos0
    refine Go.loop ?_
    refine drvL Tryz.func74 ?_
    simp (maxSteps := 9999999) only [go_sem, rdr, hb0, hb1, hh1, List.getElem?_cons_zero, List.getElem?_cons_succ, Int.natCast_zero, z01, z02, z12, z11, z22, z00]
    iterate 3 ((try (refine drvZ Tryz.func74 ?_; simp (maxSteps := 9999999) only [go_sem, rdr, hb0, hb1, hh1, List.getElem?_cons_zero, List.getElem?_cons_succ, Int.natCast_zero, z01, z02, z12, z11, z22, z00])); (try ((with_reducible refine And.intro ?_ ?_) <;> (repeat' with_reducible apply And.intro) <;> try exact sd)))
    refine Go.loopQ (fun x : Nat × Nat × List Int => [(0, .c (.ptr 0 0)), (3, DI .i64 bit), (5, .c (.ptr 1 0)), (8, .c (.ptr 129 0)), (9, .c (.ptr 321 0)), (11, DI .i64 0), (12, DI .i64 x.1)])
     (fun x => [(0, some (rdr bs x.2.1)), (1, some (Pg.cells ⟨vs, [(T0 : Int)], bd⟩)), (129, some [.v (.slice none 0 0), .v (.slice none 0 0)]), (257, some (S.map I64)), (258, some ([.msl 259 1 0 4])), (259, some (x.2.2.map I64)), (260, some ([])), (321, some [.msl 257 1 0 va.length, .msl 258 1 0 1])])
     8192 (fun x => x.1 ≤ 4 ∧ pos0 ≤ x.2.1 ∧ x.2.1 ≤ pos0 + x.1 ∧ x.2.2.length = 4 ∧ (∀ y ∈ x.2.2, 0 ≤ y ∧ y ≤ 255) ∧ (T0.testBit β = false → x.2.2 = a)) (fun x => 4 - x.1) ?_ (0, pos0, a) some [] _ ⟨Nat.zero_le _, Nat.le_refl _, Nat.le_refl _, h4a.1, h4a.2, fun _ => rfl⟩ ?_
    ·rintro ⟨k, ps, c⟩ ⟨hk1, hk2, hk3, hk4, hk5, hk6⟩ again
     simp only at hk1 hk2 hk3 hk4 hk5 hk6
     rcases Nat.lt_or_ge k 4 with hlt | hge
     ·have hz : ((k : Int) < 4) = True := eq_true (by omega)
      obtain ⟨bb, hb1, hb2, hb3⟩ := bitB hβ hT0
      cases bb with
      | false =>
       refine drvL Tryz.func74 ?_
       simp (maxSteps := 9999999) only [go_sem, rdr, hz, List.getElem?_cons_zero, List.getElem?_cons_succ, Int.natCast_zero, z01, z02, z12, z11, z22, z00]
       iterate 5 ((try (refine drvZ Tryz.func74 ?_; simp (maxSteps := 9999999) only [go_sem, rdr, hz, hT0x, hb2, hb3, List.getElem?_cons_zero, List.getElem?_cons_succ, Int.natCast_zero, z01, z02, z12, z11, z22, z00])); (try ((with_reducible refine And.intro ?_ ?_) <;> (repeat' with_reducible apply And.intro) <;> try exact sd)))
       refine again (k + 1, ps, c) some [] _ ⟨hlt, hk2, (show ps ≤ pos0 + (k + 1) by omega), hk4, hk5, hk6⟩ (show 4 - (k + 1) < 4 - k by omega) ?_
       simp (maxSteps := 9999999) only [go_sem, TmOK, DM, DMs, CM, CMs, forall_eq, exists_eq_left, Mq, HpOK, LowOK, rdr]
       simp [CMs_I, CMs_hdr, CMs_b0, CMs_b1, upd]
      | true =>
       refine drvL Tryz.func74 ?_
       simp (maxSteps := 9999999) only [go_sem, rdr, hz, List.getElem?_cons_zero, List.getElem?_cons_succ, Int.natCast_zero, z01, z02, z12, z11, z22, z00]
       iterate 5 ((try (refine drvZ Tryz.func74 ?_; simp (maxSteps := 9999999) only [go_sem, rdr, hz, hT0x, hb2, hb3, List.getElem?_cons_zero, List.getElem?_cons_succ, Int.natCast_zero, z01, z02, z12, z11, z22, z00])); (try ((with_reducible refine And.intro ?_ ?_) <;> (repeat' with_reducible apply And.intro) <;> try exact sd)))
       refine XK.callG [0] (hval ps (by omega)) ok120 (hhp_one rfl) (hbT ()) (fun d h' ⟨_, _, _, _, _, _, e⟩ => by subst e; simp) ?_ (fun _ => ⟨by kernel_rfl, _, _, ⟨0, rfl, by omega, ps, by omega, by omega, rfl⟩, by simp⟩)
       rintro _ _ ⟨v, rfl, hv, ps', hp1, hp3, rfl⟩ _
       iterate 5 ((try (refine drvZ Tryz.func74 ?_; simp (maxSteps := 9999999) only [go_sem, rdr, hz, List.getElem?_cons_zero, List.getElem?_cons_succ, Int.natCast_zero, z01, z02, z12, z11, z22, z00, hk4])); (try ((with_reducible refine And.intro ?_ ?_) <;> (repeat' with_reducible apply And.intro) <;> try exact sd)))
       refine again (k + 1, ps', c.set k v) some [] _ ⟨hlt, (show pos0 ≤ ps' by omega), (show ps' ≤ pos0 + (k + 1) by omega), by rw [List.length_set]; exact hk4, rng_set hk5 hv, fun h => by rw [hb1] at h; cases h⟩ (show 4 - (k + 1) < 4 - k by omega) ?_
       simp (maxSteps := 9999999) only [go_sem, TmOK, DM, DMs, CM, CMs, forall_eq, exists_eq_left, Mq, HpOK, LowOK, rdr]
       simp [CMs_I, CMs_hdr, CMs_b0, CMs_b1, upd]
       try exact CMs.kf (by rw [← List.map_set]; exact kf_I _)
     ·have hz : ((k : Int) < 4) = False := eq_false (by omega)
      clear again
      refine drvL Tryz.func74 ?_
      simp (maxSteps := 9999999) only [go_sem, rdr, hz, List.getElem?_cons_zero, List.getElem?_cons_succ, Int.natCast_zero, z01, z02, z12, z11, z22, z00]
      iterate 3 ((try (refine drvZ Tryz.func74 ?_; simp (maxSteps := 9999999) only [go_sem, rdr, hz, List.getElem?_cons_zero, List.getElem?_cons_succ, Int.natCast_zero, z01, z02, z12, z11, z22, z00])); (try ((with_reducible refine And.intro ?_ ?_) <;> (repeat' with_reducible apply And.intro) <;> try exact sd)))
      refine Go.inLoop ?_
      refine drvL Tryz.func74 ?_
      simp (maxSteps := 9999999) only [go_sem, rdr, List.getElem?_cons_zero, List.getElem?_cons_succ, Int.natCast_zero, z01, z02, z12, z11, z22, z00]
      iterate 3 ((try (refine drvZ Tryz.func74 ?_; simp (maxSteps := 9999999) only [go_sem, rdr, List.getElem?_cons_zero, List.getElem?_cons_succ, Int.natCast_zero, z01, z02, z12, z11, z22, z00])); (try ((with_reducible refine And.intro ?_ ?_) <;> (repeat' with_reducible apply And.intro) <;> try exact sd)))
      exact fin [c] ps _ (by simp) (by omega) (by omega) ⟨rfl, fun j x hj hf => by
       match j, hj with
       | 0, hj => simp only [List.getElem?_cons_zero, Option.some.injEq] at hj; subst hj; simp [hk6 (by simpa using hf)]
       | j + 1, hj => simp at hj⟩ (by simpa using ⟨hk4, hk5⟩) rfl rfl rfl rfl rfl
    ·simp (maxSteps := 9999999) only [go_sem, TmOK, DM, DMs, CM, CMs, forall_eq, exists_eq_left, Mq, HpOK, LowOK, rdr]
     simp [CMs_I, CMs_hdr, CMs_b0, CMs_b1, upd]
   ·obtain ⟨T0, hT0, rfl⟩ := hbv l (h2 l (by simp))
    obtain ⟨T1, hT1, rfl⟩ := hbv l' (h2 l' (by simp))
    have hT0x : ([((T0 : Nat) : Int), ((T1 : Nat) : Int)] : List Int)[0]? = some (T0 : Int) := rfl
    have hT1x : ([((T0 : Nat) : Int), ((T1 : Nat) : Int)] : List Int)[1]? = some (T1 : Int) := rfl
    have h4a := har a (by simp)
    have h4b := har b (by simp)
    have hb0 : blk0 [a, b] = a.map I64 := rfl
    have hb1 : blk1 [a, b] = b.map I64 := rfl
    have hh1 : hdr 259 260 2 = [.msl 259 1 0 4, .msl 260 1 0 4] := rfl
    obtain ⟨pos0, hpos0⟩ : ∃ p, p = pos := ⟨pos, rfl⟩
    subst hpos0
    refine Go.loop ?_
    refine drvL Tryz.func74 ?_
    simp (maxSteps := 9999999) only [go_sem, rdr, hb0, hb1, hh1, List.getElem?_cons_zero, List.getElem?_cons_succ, Int.natCast_zero, z01, z02, z12, z11, z22, z00]
    iterate 3 ((try (refine drvZ Tryz.func74 ?_; simp (maxSteps := 9999999) only [go_sem, rdr, hb0, hb1, hh1, List.getElem?_cons_zero, List.getElem?_cons_succ, Int.natCast_zero, z01, z02, z12, z11, z22, z00])); (try ((with_reducible refine And.intro ?_ ?_) <;> (repeat' with_reducible apply And.intro) <;> try exact sd)))
    refine Go.loopQ (fun x : Nat × Nat × List Int => [(0, .c (.ptr 0 0)), (3, DI .i64 bit), (5, .c (.ptr 1 0)), (8, .c (.ptr 129 0)), (9, .c (.ptr 321 0)), (11, DI .i64 0), (12, DI .i64 x.1)])
     (fun x => [(0, some (rdr bs x.2.1)), (1, some (Pg.cells ⟨vs, [(T0 : Int), (T1 : Int)], bd⟩)), (129, some [.v (.slice none 0 0), .v (.slice none 0 0)]), (257, some (S.map I64)), (258, some ([.msl 259 1 0 4, .msl 260 1 0 4])), (259, some (x.2.2.map I64)), (260, some (b.map I64)), (321, some [.msl 257 1 0 va.length, .msl 258 1 0 2])])
     8192 (fun x => x.1 ≤ 4 ∧ pos0 ≤ x.2.1 ∧ x.2.1 ≤ pos0 + x.1 ∧ x.2.2.length = 4 ∧ (∀ y ∈ x.2.2, 0 ≤ y ∧ y ≤ 255) ∧ (T0.testBit β = false → x.2.2 = a)) (fun x => 4 - x.1) ?_ (0, pos0, a) some [] _ ⟨Nat.zero_le _, Nat.le_refl _, Nat.le_refl _, h4a.1, h4a.2, fun _ => rfl⟩ ?_
    ·rintro ⟨k, ps, c⟩ ⟨hk1, hk2, hk3, hk4, hk5, hk6⟩ again
     simp only at hk1 hk2 hk3 hk4 hk5 hk6
     rcases Nat.lt_or_ge k 4 with hlt | hge
     ·have hz : ((k : Int) < 4) = True := eq_true (by omega)
      obtain ⟨bb, hb1, hb2, hb3⟩ := bitB hβ hT0
      cases bb with
      | false =>
       refine drvL Tryz.func74 ?_
       simp (maxSteps := 9999999) only [go_sem, rdr, hz, List.getElem?_cons_zero, List.getElem?_cons_succ, Int.natCast_zero, z01, z02, z12, z11, z22, z00]
       iterate 5 ((try (refine drvZ Tryz.func74 ?_; simp (maxSteps := 9999999) only [go_sem, rdr, hz, hT0x, hb2, hb3, List.getElem?_cons_zero, List.getElem?_cons_succ, Int.natCast_zero, z01, z02, z12, z11, z22, z00])); (try ((with_reducible refine And.intro ?_ ?_) <;> (repeat' with_reducible apply And.intro) <;> try exact sd)))
       refine again (k + 1, ps, c) some [] _ ⟨hlt, hk2, (show ps ≤ pos0 + (k + 1) by omega), hk4, hk5, hk6⟩ (show 4 - (k + 1) < 4 - k by omega) ?_
       simp (maxSteps := 9999999) only [go_sem, TmOK, DM, DMs, CM, CMs, forall_eq, exists_eq_left, Mq, HpOK, LowOK, rdr]
       simp [CMs_I, CMs_hdr, CMs_b0, CMs_b1, upd]
      | true =>
       refine drvL Tryz.func74 ?_
       simp (maxSteps := 9999999) only [go_sem, rdr, hz, List.getElem?_cons_zero, List.getElem?_cons_succ, Int.natCast_zero, z01, z02, z12, z11, z22, z00]
       iterate 5 ((try (refine drvZ Tryz.func74 ?_; simp (maxSteps := 9999999) only [go_sem, rdr, hz, hT0x, hb2, hb3, List.getElem?_cons_zero, List.getElem?_cons_succ, Int.natCast_zero, z01, z02, z12, z11, z22, z00])); (try ((with_reducible refine And.intro ?_ ?_) <;> (repeat' with_reducible apply And.intro) <;> try exact sd)))
       refine XK.callG [0] (hval ps (by omega)) ok120 (hhp_one rfl) (hbT ()) (fun d h' ⟨_, _, _, _, _, _, e⟩ => by subst e; simp) ?_ (fun _ => ⟨by kernel_rfl, _, _, ⟨0, rfl, by omega, ps, by omega, by omega, rfl⟩, by simp⟩)
       rintro _ _ ⟨v, rfl, hv, ps', hp1, hp3, rfl⟩ _
       iterate 5 ((try (refine drvZ Tryz.func74 ?_; simp (maxSteps := 9999999) only [go_sem, rdr, hz, List.getElem?_cons_zero, List.getElem?_cons_succ, Int.natCast_zero, z01, z02, z12, z11, z22, z00, hk4])); (try ((with_reducible refine And.intro ?_ ?_) <;> (repeat' with_reducible apply And.intro) <;> try exact sd)))
       refine again (k + 1, ps', c.set k v) some [] _ ⟨hlt, (show pos0 ≤ ps' by omega), (show ps' ≤ pos0 + (k + 1) by omega), by rw [List.length_set]; exact hk4, rng_set hk5 hv, fun h => by rw [hb1] at h; cases h⟩ (show 4 - (k + 1) < 4 - k by omega) ?_
       simp (maxSteps := 9999999) only [go_sem, TmOK, DM, DMs, CM, CMs, forall_eq, exists_eq_left, Mq, HpOK, LowOK, rdr]
       simp [CMs_I, CMs_hdr, CMs_b0, CMs_b1, upd]
       try exact CMs.kf (by rw [← List.map_set]; exact kf_I _)
     ·have hz : ((k : Int) < 4) = False := eq_false (by omega)
      clear again
      refine drvL Tryz.func74 ?_
      simp (maxSteps := 9999999) only [go_sem, rdr, hz, List.getElem?_cons_zero, List.getElem?_cons_succ, Int.natCast_zero, z01, z02, z12, z11, z22, z00]
      iterate 3 ((try (refine drvZ Tryz.func74 ?_; simp (maxSteps := 9999999) only [go_sem, rdr, hz, List.getElem?_cons_zero, List.getElem?_cons_succ, Int.natCast_zero, z01, z02, z12, z11, z22, z00])); (try ((with_reducible refine And.intro ?_ ?_) <;> (repeat' with_reducible apply And.intro) <;> try exact sd)))
      obtain ⟨A0, hA⟩ : ∃ A0, A0 = c := ⟨c, rfl⟩
      rw [← hA] at hk4 hk5 hk6 ⊢
      obtain ⟨pos1, hps⟩ : ∃ p, p = ps := ⟨ps, rfl⟩
      rw [← hps] at hk2 hk3 ⊢
      have h4A : A0.length = 4 ∧ ∀ y ∈ A0, 0 ≤ y ∧ y ≤ 255 := ⟨hk4, hk5⟩
      have hA0 := hk6
      have hq1 : pos0 ≤ pos1 := hk2
      have hq2 : pos1 ≤ pos0 + 4 := by omega
      clear hk1 hk2 hk3 hk4 hk5 hk6 hz hge hA hps
      refine Go.inLoop ?_
      refine drvL Tryz.func74 ?_
      simp (maxSteps := 9999999) only [go_sem, rdr, List.getElem?_cons_zero, List.getElem?_cons_succ, Int.natCast_zero, z01, z02, z12, z11, z22, z00]
      iterate 3 ((try (refine drvZ Tryz.func74 ?_; simp (maxSteps := 9999999) only [go_sem, rdr, List.getElem?_cons_zero, List.getElem?_cons_succ, Int.natCast_zero, z01, z02, z12, z11, z22, z00])); (try ((with_reducible refine And.intro ?_ ?_) <;> (repeat' with_reducible apply And.intro) <;> try exact sd)))
      refine Go.loopQ (fun x : Nat × Nat × List Int => [(0, .c (.ptr 0 0)), (3, DI .i64 bit), (5, .c (.ptr 1 0)), (8, .c (.ptr 129 0)), (9, .c (.ptr 321 0)), (11, DI .i64 1), (12, DI .i64 x.1)])
       (fun x => [(0, some (rdr bs x.2.1)), (1, some (Pg.cells ⟨vs, [(T0 : Int), (T1 : Int)], bd⟩)), (129, some [.v (.slice none 0 0), .v (.slice none 0 0)]), (257, some (S.map I64)), (258, some ([.msl 259 1 0 4, .msl 260 1 0 4])), (259, some (A0.map I64)), (260, some (x.2.2.map I64)), (321, some [.msl 257 1 0 va.length, .msl 258 1 0 2])])
       12288 (fun x => x.1 ≤ 4 ∧ pos1 ≤ x.2.1 ∧ x.2.1 ≤ pos1 + x.1 ∧ x.2.2.length = 4 ∧ (∀ y ∈ x.2.2, 0 ≤ y ∧ y ≤ 255) ∧ (T1.testBit β = false → x.2.2 = b)) (fun x => 4 - x.1) ?_ (0, pos1, b) some [] _ ⟨Nat.zero_le _, Nat.le_refl _, Nat.le_refl _, h4b.1, h4b.2, fun _ => rfl⟩ ?_
      ·rintro ⟨k, ps, c⟩ ⟨hk1, hk2, hk3, hk4, hk5, hk6⟩ again
       simp only at hk1 hk2 hk3 hk4 hk5 hk6
       rcases Nat.lt_or_ge k 4 with hlt | hge
       ·have hz : ((k : Int) < 4) = True := eq_true (by omega)
        obtain ⟨bb, hb1, hb2, hb3⟩ := bitB hβ hT1
        cases bb with
        | false =>
         refine drvL Tryz.func74 ?_
         simp (maxSteps := 9999999) only [go_sem, rdr, hz, List.getElem?_cons_zero, List.getElem?_cons_succ, Int.natCast_zero, z01, z02, z12, z11, z22, z00]
         iterate 5 ((try (refine drvZ Tryz.func74 ?_; simp (maxSteps := 9999999) only [go_sem, rdr, hz, hT1x, hb2, hb3, List.getElem?_cons_zero, List.getElem?_cons_succ, Int.natCast_zero, z01, z02, z12, z11, z22, z00])); (try ((with_reducible refine And.intro ?_ ?_) <;> (repeat' with_reducible apply And.intro) <;> try exact sd)))
         refine again (k + 1, ps, c) some [] _ ⟨hlt, hk2, (show ps ≤ pos1 + (k + 1) by omega), hk4, hk5, hk6⟩ (show 4 - (k + 1) < 4 - k by omega) ?_
         simp (maxSteps := 9999999) only [go_sem, TmOK, DM, DMs, CM, CMs, forall_eq, exists_eq_left, Mq, HpOK, LowOK, rdr]
         simp [CMs_I, CMs_hdr, CMs_b0, CMs_b1, upd]
        | true =>
         refine drvL Tryz.func74 ?_
         simp (maxSteps := 9999999) only [go_sem, rdr, hz, List.getElem?_cons_zero, List.getElem?_cons_succ, Int.natCast_zero, z01, z02, z12, z11, z22, z00]
         iterate 5 ((try (refine drvZ Tryz.func74 ?_; simp (maxSteps := 9999999) only [go_sem, rdr, hz, hT1x, hb2, hb3, List.getElem?_cons_zero, List.getElem?_cons_succ, Int.natCast_zero, z01, z02, z12, z11, z22, z00])); (try ((with_reducible refine And.intro ?_ ?_) <;> (repeat' with_reducible apply And.intro) <;> try exact sd)))
         refine XK.callG [0] (hval ps (by omega)) ok120 (hhp_one rfl) (hbT ()) (fun d h' ⟨_, _, _, _, _, _, e⟩ => by subst e; simp) ?_ (fun _ => ⟨by kernel_rfl, _, _, ⟨0, rfl, by omega, ps, by omega, by omega, rfl⟩, by simp⟩)
         rintro _ _ ⟨v, rfl, hv, ps', hp1, hp3, rfl⟩ _
         iterate 5 ((try (refine drvZ Tryz.func74 ?_; simp (maxSteps := 9999999) only [go_sem, rdr, hz, List.getElem?_cons_zero, List.getElem?_cons_succ, Int.natCast_zero, z01, z02, z12, z11, z22, z00, hk4])); (try ((with_reducible refine And.intro ?_ ?_) <;> (repeat' with_reducible apply And.intro) <;> try exact sd)))
         refine again (k + 1, ps', c.set k v) some [] _ ⟨hlt, (show pos1 ≤ ps' by omega), (show ps' ≤ pos1 + (k + 1) by omega), by rw [List.length_set]; exact hk4, rng_set hk5 hv, fun h => by rw [hb1] at h; cases h⟩ (show 4 - (k + 1) < 4 - k by omega) ?_
         simp (maxSteps := 9999999) only [go_sem, TmOK, DM, DMs, CM, CMs, forall_eq, exists_eq_left, Mq, HpOK, LowOK, rdr]
         simp [CMs_I, CMs_hdr, CMs_b0, CMs_b1, upd]
         try exact CMs.kf (by rw [← List.map_set]; exact kf_I _)
       ·have hz : ((k : Int) < 4) = False := eq_false (by omega)
        clear again
        refine drvL Tryz.func74 ?_
        simp (maxSteps := 9999999) only [go_sem, rdr, hz, List.getElem?_cons_zero, List.getElem?_cons_succ, Int.natCast_zero, z01, z02, z12, z11, z22, z00]
        iterate 3 ((try (refine drvZ Tryz.func74 ?_; simp (maxSteps := 9999999) only [go_sem, rdr, hz, List.getElem?_cons_zero, List.getElem?_cons_succ, Int.natCast_zero, z01, z02, z12, z11, z22, z00])); (try ((with_reducible refine And.intro ?_ ?_) <;> (repeat' with_reducible apply And.intro) <;> try exact sd)))
        refine Go.inLoop ?_
        refine drvL Tryz.func74 ?_
        simp (maxSteps := 9999999) only [go_sem, rdr, List.getElem?_cons_zero, List.getElem?_cons_succ, Int.natCast_zero, z01, z02, z12, z11, z22, z00]
        iterate 3 ((try (refine drvZ Tryz.func74 ?_; simp (maxSteps := 9999999) only [go_sem, rdr, List.getElem?_cons_zero, List.getElem?_cons_succ, Int.natCast_zero, z01, z02, z12, z11, z22, z00])); (try ((with_reducible refine And.intro ?_ ?_) <;> (repeat' with_reducible apply And.intro) <;> try exact sd)))
        exact fin [A0, c] ps _ rfl (by omega) (by omega) ⟨rfl, fun j x hj hf => by
         match j, hj with
         | 0, hj => simp only [List.getElem?_cons_zero, Option.some.injEq] at hj; subst hj; simp [hA0 (by simpa using hf)]
         | 1, hj => simp only [List.getElem?_cons_zero, List.getElem?_cons_succ, Option.some.injEq] at hj; subst hj; simp [hk6 (by simpa using hf)]
         | j + 2, hj => simp at hj⟩ (by simp only [List.mem_cons, List.not_mem_nil, or_false, forall_eq_or_imp, forall_eq]; exact ⟨h4A, hk4, hk5⟩) rfl rfl rfl rfl rfl
      ·simp (maxSteps := 9999999) only [go_sem, TmOK, DM, DMs, CM, CMs, forall_eq, exists_eq_left, Mq, HpOK, LowOK, rdr]
       simp [CMs_I, CMs_hdr, CMs_b0, CMs_b1, upd]
    ·simp (maxSteps := 9999999) only [go_sem, TmOK, DM, DMs, CM, CMs, forall_eq, exists_eq_left, Mq, HpOK, LowOK, rdr]
     simp [CMs_I, CMs_hdr, CMs_b0, CMs_b1, upd]
 ·simp (maxSteps := 9999999) only [go_sem, TmOK, DM, DMs, CM, CMs, forall_eq, exists_eq_left, Mq, HpOK, LowOK, rdr]
  simp [CMs_I, CMs_hdr, CMs_b0, CMs_b1, upd]
end Go.Proofs.YtpphageokplgoaaGreat.CtD
namespace Go.Proofs.YtpphageokplgoaaGreat.CtD
open Go Go.CT CtF CtR
def trR (β : Nat) (r : D) (h : List (Option (List C))) : Prop := ∃ (p : Pg) (m m' : Mm), r = .tup [.agg p.cells, .agg m.cells, .agg m'.cells] ∧ DrP p ∧ MemFits p m ∧ MemFits p m' ∧ LowM β p m m' ∧ h = []
theorem drawTypedRuns (bs : List Int) (hb : Fits .u8 bs) (hl : bs.length ≤ mx) (β : Nat) (bit : Int) (hβ : (β = 0 ∧ bit = 1) ∨ (β = 1 ∧ bit = 2)) : DC Tryz.prog 31 [bytesD bs, DI .i64 bit] [] (trR β) := by
 have hmx := mx_eq
 have hop := l17Open bs hl
 have hb' := fits_take hb 2000
 have hl' : (bs.take 2000).length ≤ 2000 := by rw [List.length_take]; omega
 generalize hR : trR β = R
 generalize hbs : bs.take 2000 = b2 at *
 unfold bytesD
 unfold bytesD at hop
 refine dcZ Tryz.func31 ?_
 simp (maxSteps := 9999999) only [go_sem]
 ((try (refine drvZ Tryz.func31 ?_; simp (maxSteps := 9999999) only [go_sem])); (try ((with_reducible refine And.intro ?_ ?_) <;> (repeat' with_reducible apply And.intro) <;> try exact sd)))
 refine XK.callG [] hop ok41 (fun i' x h => by simp at h) (hbT ()) (fun d h' ⟨_, e⟩ => by subst e; simp) ?_
 rintro _ _ ⟨rfl, rfl⟩ _
 iterate 2 ((try (refine drvZ Tryz.func31 ?_; simp (maxSteps := 9999999) only [go_sem, renCs_rdr])); (try ((with_reducible refine And.intro ?_ ?_) <;> (repeat' with_reducible apply And.intro) <;> try exact sd)))
 have hty := typed b2 0 hb' hl' (by omega)
 refine XK.callG [256] hty ok72 (hhp_one (by simp [upd, renCs_rdr])) (hbT ()) (fun d h' ⟨_, _, _, _, _, _, e⟩ => by subst e; simp) ?_
 rintro _ _ ⟨p, rfl, hp, n1, hn1, hn2, rfl⟩ _
 have hln := prog_len hp.ok
 have hlab := labs_of hp.ok
 have hme := l3Memory b2 n1 p hb' hl' (by omega) ⟨hln.1, hln.2.1⟩ hln.2.2
 have hse := fun n m h1 h2 => secrets b2 n p m hb' hl' h1 h2 hlab.1 hlab.2 β bit hβ
 obtain ⟨vs, ar, bd⟩ := p
 iterate 2 ((try (refine drvZ Tryz.func31 ?_; simp (maxSteps := 9999999) only [go_sem, renCs_rdr])); (try ((with_reducible refine And.intro ?_ ?_) <;> (repeat' with_reducible apply And.intro) <;> try exact sd)))
 refine XK.callG [256] hme ok73 (hhp_one (by simp [upd, renCs_rdr])) (hbT ()) (fun d h' ⟨_, _, _, _, _, _, e⟩ => by subst e; simp) ?_
 rintro _ _ ⟨m, rfl, hm, n2, hn3, hn4, rfl⟩ _
 have hse := hse n2 m (by omega) hm
 obtain ⟨va, arr⟩ := m
 iterate 3 ((try (refine drvZ Tryz.func31 ?_; simp (maxSteps := 9999999) only [go_sem, renCs_rdr, Mm.cells])); (try ((with_reducible refine And.intro ?_ ?_) <;> (repeat' with_reducible apply And.intro) <;> try exact sd)))
 refine XK.callG [256] hse ok74 (hhp_one (by simp [upd, renCs_rdr])) (hbT ()) (fun d h' ⟨_, _, _, _, _, _, _, e⟩ => by subst e; simp) ?_ (fun _ => ⟨by kernel_rfl, _, _, ⟨⟨va, arr⟩, rfl, hm, .refl _ _ _, n2, by omega, by omega, rfl⟩, by simp⟩)
 rintro _ _ ⟨m2, rfl, hm2, hlo, n3, hn5, hn6, rfl⟩ _
 obtain ⟨va2, arr2⟩ := m2
 iterate 3 ((try (refine drvZ Tryz.func31 ?_; simp (maxSteps := 9999999) only [go_sem, renCs_rdr, Mm.cells])); (try ((with_reducible refine And.intro ?_ ?_) <;> (repeat' with_reducible apply And.intro) <;> try exact sd)))
 refine RetOb.ofQ (fun _ => none) [] (.tup [.agg (Pg.cells ⟨vs, ar, bd⟩), .agg (Mm.cells ⟨va, arr⟩), .agg (Mm.cells ⟨va2, arr2⟩)]) [] ?_ (by rw [← hR]; exact ⟨_, _, _, rfl, hp, hm, hm2, hlo, rfl⟩) (by simp)
 simp [enumL, DM, DMs, CM, CMs, HpOK, LowOK, hOf, Pg.cells, Mm.cells, isI]
end Go.Proofs.YtpphageokplgoaaGreat.CtD
