/- Contracts of functions of the program, one behind the other, as plain data: what each call returns and which blocks it leaves. -/
import Derived.Test.YtclgjiffpijgmaaFacts
import Derived.Test.YtclgjiffpijgmaaCtC
import Derived.Test.YtclgjiffpijgmaaVa
import Derived.Test.YtclgjiffpijgmaaRa
import Derived.Test.YtclgjiffpijgmaaDa
import Derived.Test.YtclgjiffpijgmaaVb
import Derived.Test.YtclgjiffpijgmaaDb
set_option linter.unusedVariables false
set_option linter.unusedSimpArgs false
namespace Go.Proofs.Ytclgjiffpijgmaa.CtD
open Go Go.CT CtF CtR

theorem renC_kf (r : Nat → Nat) : ∀ c : C, kf c = true → renC r c = c
  | .v _, _ | .isl _ _, _ | .z, _ | .unk, _ | .eptr _, _ => rfl
  | .msl _ _ _ _, h | .ptr _ _, h | .clo _ _, h => by simp [kf] at h
theorem renCs_kf (r : Nat → Nat) (cs : List C) (h : ∀ c ∈ cs, kf c = true) : renCs r cs = cs := by
  rw [renCs_eq]
  conv => rhs; rw [← List.map_id cs]
  exact List.map_congr_left fun c hc => renC_kf r c (h c hc)
theorem renCs_stC (r : Nat → Nat) (l : List St1) : renCs r (stC l) = stC l := renCs_kf r _ (stC_kf l)

set_option maxHeartbeats 4000000 in
set_option maxRecDepth 10000 in
theorem l2Copy (p : Pg) (d : Nat) (hv : p.vars.length ≤ 1000) (ha : p.arrays.length ≤ 1000) (hb : p.body.length ≤ 1000) (hs : ∀ s ∈ p.body, SmS d s) : DC Try.prog 114 [.agg p.cells] []
    (fun r h => r = .agg [.msl 0 1 0 p.vars.length, .msl 1 1 0 p.arrays.length, .msl 2 11 0 p.body.length] ∧ h = [some (p.vars.map I64), some (p.arrays.map I64), some (stC p.body)]) := by
  have hmx := mx_eq
  have hcb := l2CopyBlockOwn d p.body (by omega) hs
  generalize hR : (fun (r : D) (h : List (Option (List C))) => r = .agg [.msl 0 1 0 p.vars.length, .msl 1 1 0 p.arrays.length, .msl 2 11 0 p.body.length] ∧ h = [some (p.vars.map I64), some (p.arrays.map I64), some (stC p.body)]) = R
  obtain ⟨vs, ar, bd⟩ := p
  have hv : vs.length ≤ 1000 := hv
  have ha : ar.length ≤ 1000 := ha
  have hb : bd.length ≤ 1000 := hb
  have hfl : (bd.map St1.cells).flatten = stC bd := rfl
  refine dc_of_go Try.func114 rfl (by simp) ?_
  refine drv_sound (n := 12) (rs := _) Try.func114 mo rfl none _ _ ?_
  simp (maxSteps := 10000000) (maxDischargeDepth := 300) only [go_sem, Pg.cells, Ex.cells, St1.cells, isI, I64, Ex.cellsL_length, Ex.cellsL_get, St1.cellsL_length, St1.cellsL_get, flat_I']
  iterate 2 ((try (refine drv_sound (n := 12) (rs := _) Try.func114 mo rfl _ _ _ ?_; simp (maxSteps := 10000000) (maxDischargeDepth := 300) only [go_sem, Pg.cells, Ex.cells, St1.cells, isI, I64, Ex.cellsL_length, Ex.cellsL_get, St1.cellsL_length, St1.cellsL_get, flat_I'])); (try ((with_reducible refine And.intro ?_ ?_) <;> (repeat' with_reducible apply And.intro) <;> (try first | omega | (simp only [InK]; omega) | (intro k e; cases e; rfl) | (intro hguard; exact ⟨hguard, by simp only [InK]; omega⟩) | kernel_rfl))))
  refine XK.callG [] hcb ok145 (fun i' x h => by simp at h) (hbT ()) (fun d h' ⟨_, e⟩ => by subst e; simp) ?_ (fun _ => ⟨by kernel_rfl, _, _, ⟨rfl, rfl⟩, by simp⟩)
  rintro _ _ ⟨rfl, rfl⟩ _
  iterate 3 ((try (refine drv_sound (n := 12) (rs := _) Try.func114 mo rfl _ _ _ ?_; simp (maxSteps := 10000000) (maxDischargeDepth := 300) only [go_sem, Pg.cells, Ex.cells, St1.cells, isI, I64, Ex.cellsL_length, Ex.cellsL_get, St1.cellsL_length, St1.cellsL_get, flat_I', renCs_stC])); (try ((with_reducible refine And.intro ?_ ?_) <;> (repeat' with_reducible apply And.intro) <;> (try first | omega | (simp only [InK]; omega) | (intro k e; cases e; rfl) | (intro hguard; exact ⟨hguard, by simp only [InK]; omega⟩) | kernel_rfl))))
  refine RetOb.ofQ (fun j => if j = 0 then some 320 else if j = 1 then some 576 else if j = 2 then some 768 else none) [] (.agg [.msl 0 1 0 vs.length, .msl 1 1 0 ar.length, .msl 2 11 0 bd.length]) [some (vs.map I64), some (ar.map I64), some (stC bd)] ?_ (by rw [← hR]; exact ⟨rfl, rfl⟩) (by simp)
  simp [enumL, hOf, DM, DMs, CM, CMs, HpOK, LowOK, upd, CMs_I]
  exact CMs.kf (stC_kf _)
end Go.Proofs.Ytclgjiffpijgmaa.CtD

namespace Go.Proofs.Ytclgjiffpijgmaa.CtD
open Go Go.CT CtF CtR

/-- What is asked of a drawn program that may be invalid. -/
structure SmP (p : Pg) : Prop where
  nv : p.vars.length ≤ 13
  na : p.arrays.length ≤ 2
  nb : p.body.length ≤ 4
  sz : ∀ k, lsize k p.body ≤ 1000
def muR (bs : List Int) (n : Nat) (r : D) (h : List (Option (List C))) : Prop := ∃ p : Pg, r = .agg p.cells ∧ SmP p ∧ rdL bs n 5 h
theorem RetOb.prK {R : D → List (Option (List C)) → Prop} {p : Pg} {hp : Hp} {k0 k1 k2 nv na nb : Nat} {rc : List C} (hR : R (.agg p.cells) [some rc]) (hrc : ∀ c ∈ rc, kf c = true)
    (hz : hp 0 = some (some rc)) (h0 : hp k0 = some (some (p.vars.map I64))) (h1 : hp k1 = some (some (p.arrays.map I64))) (h2 : hp k2 = some (some (stC p.body))) (hv : nv = p.vars.length) (ha : na = p.arrays.length) (hb : nb = p.body.length)
    (hne : 0 ≠ k0 ∧ 0 ≠ k1 ∧ 0 ≠ k2) : RetOb 1 R (.agg [.msl k0 1 0 nv, .msl k1 1 0 na, .msl k2 11 0 nb]) hp := by
  subst hv ha hb
  obtain ⟨vs, ar, bd⟩ := p
  obtain ⟨n0, n1, n2⟩ := hne
  refine RetOb.ofQ (fun j => if j = 0 then some 0 else none) [k0, k1, k2] _ [some rc] ?_ hR (by simp)
  have e4 : ∀ {hT hS : Hp} {r : Nat → Option Nat} {fz : List Nat}, CMs hT r hS fz rc rc = True := eq_true (CMs.kf hrc)
  have g1 : (St1.cellsL bd).flatten = stC bd := by rw [St1.cellsL_eq]; rfl
  have g2 : ∀ x ∈ St1.cellsL bd, x.length = 11 := fun x hx => by rw [St1.cellsL_eq] at hx; obtain ⟨e, _, rfl⟩ := List.mem_map.1 hx; exact St1.cells_len e
  have g3 : ∀ x ∈ St1.cellsL bd, ∀ c ∈ x, kf c = true := fun x hx => by rw [St1.cellsL_eq] at hx; obtain ⟨e, _, rfl⟩ := List.mem_map.1 hx; exact st_kf e
  simp [enumL, DM, DMs, CM, CMs, HpOK, LowOK, hOf, upd, Pg.cells, isI, flat_I, kf, e4, hz, h0, h1, h2, g1, St1.cellsL_length, n0, n1, n2]
  exact ⟨g2, g3⟩
theorem lsize_cons (k : Nat) (s : St1) (l : List St1) : lsize k (s :: l) = tsize k s + lsize k l := by simp [lsize]
theorem tsize_head (k : Nat) (a a' t t' : Int) (x x' v v' : Ex) (c c' : Int) (b e : List St1) : tsize k (.mk a t x v c b e) = tsize k (.mk a' t' x' v' c' b e) := by cases k <;> rfl
theorem DrP.smP {p : Pg} (h : DrP p) : SmP p := ⟨by have := h.nv; omega, h.na, h.nb, fun k => by
  have h1 := lsize_sm 2 k p.body h.sm
  have h2 : p.body.length * 9 ^ 2 ≤ 4 * 9 ^ 2 := Nat.mul_le_mul_right _ h.nb
  omega⟩
theorem kf_body (l : List St1) : ∀ c ∈ stC l, kf c = true := stC_kf l
theorem stC_cons (s : St1) (l : List St1) : stC (s :: l) = s.cells ++ stC l := by simp [stC]
theorem stC_nil : stC [] = [] := rfl

set_option maxHeartbeats 8000000 in
set_option maxRecDepth 10000 in
theorem l2Mutate (bs : List Int) (n : Nat) (p : Pg) (hb : Fits .u8 bs) (hl : bs.length ≤ 2000) (hn : n ≤ 274877906944) (hp : DrP p) : DC Try.prog 69 [.c (.ptr 0 0), .agg p.cells] [some (rdr bs n)] (muR bs n) := by
  have hmx := mx_eq
  have hsm := hp.smP
  have hcp := l2Copy p 2 (by have := hp.nv; omega) (by have := hp.na; omega) (by have := hp.nb; omega) hp.sm
  have hnum := fun n xs h1 h2 h3 => numO bs n xs hb hl h1 h2 h3
  generalize hR : muR bs n = R
  obtain ⟨vs, ar, bd⟩ := p
  have hv5 : vs.length ≤ 5 := hp.nv
  have ha2 : ar.length ≤ 2 := hp.na
  have hb4 : bd.length ≤ 4 := hp.nb
  have hfin : ∀ (k0 nv na nb : Nat) (n' : Nat) (va' : List Int) (bd' : List St1) (hp : Hp), va'.length ≤ 13 → bd'.length ≤ 4 → (∀ k, lsize k bd' = lsize k bd) → n ≤ n' → n' ≤ n + 5 → hp 0 = some (some (rdr bs n')) → hp k0 = some (some (va'.map I64)) → hp 194 = some (some (ar.map I64)) → hp 195 = some (some (stC bd')) → nv = va'.length → na = ar.length → nb = bd'.length →
      0 ≠ k0 → RetOb 1 R (.agg [.msl k0 1 0 nv, .msl 194 1 0 na, .msl 195 11 0 nb]) hp := fun k0 nv na nb n' va' bd' hp g1 g1b g1c g2 g3 g4 g5 g6 g7 g8 g9 g10 e4 =>
    RetOb.prK (p := ⟨va', ar, bd'⟩) (by rw [← hR]; exact ⟨⟨va', ar, bd'⟩, rfl, ⟨g1, ha2, g1b, fun k => by rw [g1c]; exact hsm.sz k⟩, n', g2, g3, rfl⟩) (rdr_kf bs n') g4 g5 g6 g7 g8 g9 g10 ⟨e4, by decide, by decide⟩
  refine dc_of_go Try.func69 rfl (by simp) ?_
  refine drv_sound (n := 12) (rs := _) Try.func69 mo rfl none _ _ ?_
  simp (maxSteps := 10000000) (maxDischargeDepth := 300) only [go_sem, Pg.cells, Ex.cells, St1.cells, isI, I64, Ex.cellsL_length, Ex.cellsL_get, St1.cellsL_length, St1.cellsL_get, rdr]
  iterate 1 ((try (refine drv_sound (n := 12) (rs := _) Try.func69 mo rfl _ _ _ ?_; simp (maxSteps := 10000000) (maxDischargeDepth := 300) only [go_sem, Pg.cells, Ex.cells, St1.cells, isI, I64, Ex.cellsL_length, Ex.cellsL_get, St1.cellsL_length, St1.cellsL_get, rdr])); (try ((with_reducible refine And.intro ?_ ?_) <;> (repeat' with_reducible apply And.intro) <;> (try first | omega | (simp only [InK]; omega) | (intro k e; cases e; rfl) | (intro hguard; exact ⟨hguard, by simp only [InK]; omega⟩) | kernel_rfl))))
  refine XK.callG [] hcp ok114 (fun i' x h => by simp at h) (hbT ()) (fun d h' ⟨_, e⟩ => by subst e; simp) ?_
  rintro _ _ ⟨rfl, rfl⟩ _
  iterate 3 ((try (refine drv_sound (n := 12) (rs := _) Try.func69 mo rfl _ _ _ ?_; simp (maxSteps := 10000000) (maxDischargeDepth := 300) only [go_sem, Pg.cells, Ex.cells, St1.cells, isI, I64, Ex.cellsL_length, Ex.cellsL_get, St1.cellsL_length, St1.cellsL_get, renCs_I, renCs_stC, rdr])); (try ((with_reducible refine And.intro ?_ ?_) <;> (repeat' with_reducible apply And.intro) <;> (try first | omega | (simp only [InK]; omega) | (intro k e; cases e; rfl) | (intro hguard; exact ⟨hguard, by simp only [InK]; omega⟩) | kernel_rfl))))
  refine XK.callG [0] (pick bs n 60 hb hl (by omega) (by simp only [InK]; omega)) ok58 (hhp_one rfl) (hbT ()) (fun d h' ⟨v, _, _, e⟩ => by subst e; simp) ?_
  rintro _ _ ⟨v, rfl, hpv, rfl⟩ _
  have hpv : v = 0 ∨ v = 1 ∨ v = 2 ∨ v = 3 ∨ v = 4 ∨ v = 5 ∨ v = 6 ∨ (v ≠ 0 ∧ v ≠ 1 ∧ v ≠ 2 ∧ v ≠ 3 ∧ v ≠ 4 ∧ v ≠ 5 ∧ v ≠ 6) := by omega
  rcases hpv with rfl | rfl | rfl | rfl | rfl | rfl | rfl | ⟨h0, h1, h2, h3, h4, h5, h6⟩
  · cases vs with
    | nil =>
      have hz : ((0 : Int) < 0) = False := eq_false (by omega)
      iterate 5 ((try (refine drv_sound (n := 12) (rs := _) Try.func69 mo rfl _ _ _ ?_; simp (maxSteps := 10000000) (maxDischargeDepth := 300) only [go_sem, Pg.cells, Ex.cells, St1.cells, isI, I64, Ex.cellsL_length, Ex.cellsL_get, St1.cellsL_length, St1.cellsL_get, rdr, Int.reduceBEq, Int.reduceEq, List.length_nil, Int.natCast_zero, hz])); (try ((with_reducible refine And.intro ?_ ?_) <;> (repeat' with_reducible apply And.intro) <;> (try first | omega | (simp only [InK]; omega) | (intro k e; cases e; rfl) | (intro hguard; exact ⟨hguard, by simp only [InK]; omega⟩) | kernel_rfl))))
      exact hfin 193 _ _ _ (n + 1) [] bd _ (by first | omega | (simp; omega) | simp) (by first | omega | (simp; omega) | simp) (fun _ => rfl) (by omega) (by omega) rfl rfl rfl rfl rfl rfl rfl (by decide)
    | cons x r =>
      have hv5 : r.length + 1 ≤ 5 := hv5
      have hz : ((0 : Int) < (r.length : Int) + 1) = True := eq_true (by omega)
      iterate 5 ((try (refine drv_sound (n := 12) (rs := _) Try.func69 mo rfl _ _ _ ?_; simp (maxSteps := 10000000) (maxDischargeDepth := 300) only [go_sem, Pg.cells, Ex.cells, St1.cells, isI, I64, Ex.cellsL_length, Ex.cellsL_get, St1.cellsL_length, St1.cellsL_get, rdr, Int.reduceBEq, Int.reduceEq, hz])); (try ((with_reducible refine And.intro ?_ ?_) <;> (repeat' with_reducible apply And.intro) <;> (try first | omega | (simp only [InK]; omega) | (intro k e; cases e; rfl) | (intro hguard; exact ⟨hguard, by simp only [InK]; omega⟩) | kernel_rfl))))
      refine XK.callG [0] (l1Draw bs (n + 1) hb hl (by omega)) ok115 (hhp_one rfl) (hbT ()) (fun d h' ⟨_, _, _, _, _, _, e⟩ => by subst e; simp) ?_ (fun _ => ⟨by kernel_rfl, _, _, ⟨0, rfl, by simp [InK], n + 1, by omega, by omega, rfl⟩, by simp⟩)
      rintro _ _ ⟨w, rfl, hw, n', hn1, hn2, rfl⟩ _
      iterate 5 ((try (refine drv_sound (n := 12) (rs := _) Try.func69 mo rfl _ _ _ ?_; simp (maxSteps := 10000000) (maxDischargeDepth := 300) only [go_sem, Pg.cells, Ex.cells, St1.cells, isI, I64, Ex.cellsL_length, Ex.cellsL_get, St1.cellsL_length, St1.cellsL_get, rdr, Int.reduceBEq, Int.reduceEq, hz])); (try ((with_reducible refine And.intro ?_ ?_) <;> (repeat' with_reducible apply And.intro) <;> (try first | omega | (simp only [InK]; omega) | (intro k e; cases e; rfl) | (intro hguard; exact ⟨hguard, by simp only [InK]; omega⟩) | kernel_rfl))))
      exact hfin 193 _ _ _ n' (w :: r) bd _ (by first | omega | (simp; omega) | simp) (by omega) (fun _ => rfl) (by omega) (by omega) rfl rfl rfl rfl rfl rfl rfl (by decide)
  · iterate 5 ((try (refine drv_sound (n := 12) (rs := _) Try.func69 mo rfl _ _ _ ?_; simp (maxSteps := 10000000) (maxDischargeDepth := 300) only [go_sem, Pg.cells, Ex.cells, St1.cells, isI, I64, Ex.cellsL_length, Ex.cellsL_get, St1.cellsL_length, St1.cellsL_get, rdr, Int.reduceBEq, Int.reduceEq])); (try ((with_reducible refine And.intro ?_ ?_) <;> (repeat' with_reducible apply And.intro) <;> (try first | omega | (simp only [InK]; omega) | (intro k e; cases e; rfl) | (intro hguard; exact ⟨hguard, by simp only [InK]; omega⟩) | kernel_rfl))))
    refine Go.loopQ (fun l : List Int => [(4, .c (.ptr 65 0)), (5, .c (.ptr 257 0))])
      (fun l => [(0, some (rdr bs ((n + 1 : Nat) : Int))), (65, some [.v (.slice none 0 0), .v (.slice none 0 0), .v (.slice none 0 0)]), (257, some [.msl 67 1 0 l.length, .msl 194 1 0 ar.length, .msl 195 11 0 bd.length]), (67, some (l.map I64)), (194, some (ar.map I64)), (195, some (stC bd))])
      4096 (fun l => l.length ≤ 13) (fun l => 13 - l.length) ?_ vs (fun j => if j = 67 then some 193 else some j) [] _ (by omega) ?_
    · intro l hi again
      rcases Nat.lt_or_ge l.length 13 with hlt | hge
      · have hz : ((l.length : Int) ≤ 12) = True := eq_true (by omega)
        refine drv_sound (n := 12) (rs := _) Try.func69 mo rfl none _ _ ?_
        simp (maxSteps := 10000000) (maxDischargeDepth := 300) only [go_sem, Pg.cells, Ex.cells, St1.cells, isI, I64, Ex.cellsL_length, Ex.cellsL_get, St1.cellsL_length, St1.cellsL_get, rdr, hz]
        iterate 4 ((try (refine drv_sound (n := 12) (rs := _) Try.func69 mo rfl _ _ _ ?_; simp (maxSteps := 10000000) (maxDischargeDepth := 300) only [go_sem, Pg.cells, Ex.cells, St1.cells, isI, I64, Ex.cellsL_length, Ex.cellsL_get, St1.cellsL_length, St1.cellsL_get, rdr, Int.reduceBEq, Int.reduceEq, hz])); (try ((with_reducible refine And.intro ?_ ?_) <;> (repeat' with_reducible apply And.intro) <;> (try first | omega | (simp only [InK]; omega) | (intro k e; cases e; rfl) | (intro hguard; exact ⟨hguard, by simp only [InK]; omega⟩) | kernel_rfl))))
        refine again (l ++ [1]) (fun j => if j = 67 then some 4544 else some j) [] _ (by simp; omega) (by simp; omega) ?_
        simp (maxSteps := 10000000) (maxDischargeDepth := 300) only [go_sem, TmOK, DM, DMs, CM, CMs, forall_eq, exists_eq_left, Mq, HpOK, LowOK, Pg.cells, Ex.cells, St1.cells, isI, I64, Ex.cellsL_length, Ex.cellsL_get, St1.cellsL_length, St1.cellsL_get, rdr, i_snoc]
        simp
        exact ⟨CMs.kf (kf_app (kf_I _) (by simp [kf])), CMs.kf (kf_I _), CMs.kf (stC_kf _)⟩
      · have hz : ((l.length : Int) ≤ 12) = False := eq_false (by omega)
        refine drv_sound (n := 12) (rs := _) Try.func69 mo rfl none _ _ ?_
        simp (maxSteps := 10000000) (maxDischargeDepth := 300) only [go_sem, Pg.cells, Ex.cells, St1.cells, isI, I64, Ex.cellsL_length, Ex.cellsL_get, St1.cellsL_length, St1.cellsL_get, rdr, hz]
        iterate 4 ((try (refine drv_sound (n := 12) (rs := _) Try.func69 mo rfl _ _ _ ?_; simp (maxSteps := 10000000) (maxDischargeDepth := 300) only [go_sem, Pg.cells, Ex.cells, St1.cells, isI, I64, Ex.cellsL_length, Ex.cellsL_get, St1.cellsL_length, St1.cellsL_get, rdr, Int.reduceBEq, Int.reduceEq, hz])); (try ((with_reducible refine And.intro ?_ ?_) <;> (repeat' with_reducible apply And.intro) <;> (try first | omega | (simp only [InK]; omega) | (intro k e; cases e; rfl) | (intro hguard; exact ⟨hguard, by simp only [InK]; omega⟩) | kernel_rfl))))
        exact hfin 67 _ _ _ (n + 1) l bd _ (by omega) (by omega) (fun _ => rfl) (by omega) (by omega) rfl rfl rfl rfl rfl rfl rfl (by decide)
    · simp (maxSteps := 10000000) (maxDischargeDepth := 300) only [go_sem, TmOK, DM, DMs, CM, CMs, forall_eq, exists_eq_left, Mq, HpOK, LowOK, Pg.cells, Ex.cells, St1.cells, isI, I64, Ex.cellsL_length, Ex.cellsL_get, St1.cellsL_length, St1.cellsL_get, rdr]
      simp
      exact ⟨CMs.kf (kf_I _), CMs.kf (kf_I _), CMs.kf (stC_kf _)⟩
  · cases bd with
    | nil =>
      have hz : ((0 : Int) < 0) = False := eq_false (by omega)
      iterate 9 ((try (refine drv_sound (n := 12) (rs := _) Try.func69 mo rfl _ _ _ ?_; simp (maxSteps := 10000000) (maxDischargeDepth := 300) only [go_sem, Pg.cells, Ex.cells, St1.cells, isI, I64, Ex.cellsL_length, Ex.cellsL_get, St1.cellsL_length, St1.cellsL_get, rdr, Int.reduceBEq, Int.reduceEq, List.length_nil, Int.natCast_zero, hz])); (try ((with_reducible refine And.intro ?_ ?_) <;> (repeat' with_reducible apply And.intro) <;> (try first | omega | (simp only [InK]; omega) | (intro k e; cases e; rfl) | (intro hguard; exact ⟨hguard, by simp only [InK]; omega⟩) | kernel_rfl))))
      exact hfin 193 _ _ _ (n + 1) vs [] _ (by first | omega | (simp; omega) | simp) (by first | omega | (simp; omega) | simp) (fun _ => rfl) (by omega) (by omega) rfl rfl rfl rfl rfl rfl rfl (by decide)
    | cons s r =>
      obtain ⟨k, t, ⟨ik, iv, iks⟩, ⟨vk, vv, vks⟩, c, b, e⟩ := s
      have hb4 : r.length + 1 ≤ 4 := hb4
      have hz : ((0 : Int) < (r.length : Int) + 1) = True := eq_true (by omega)
      iterate 9 ((try (refine drv_sound (n := 12) (rs := _) Try.func69 mo rfl _ _ _ ?_; simp (maxSteps := 10000000) (maxDischargeDepth := 300) only [go_sem, Pg.cells, Ex.cells, St1.cells, isI, I64, Ex.cellsL_length, Ex.cellsL_get, St1.cellsL_length, St1.cellsL_get, rdr, Int.reduceBEq, Int.reduceEq, hz, stC_cons, List.cons_append, List.nil_append])); (try ((with_reducible refine And.intro ?_ ?_) <;> (repeat' with_reducible apply And.intro) <;> (try first | omega | (simp only [InK]; omega) | (intro k e; cases e; rfl) | (intro hguard; exact ⟨hguard, by simp only [InK]; omega⟩) | kernel_rfl))))
      refine XK.callG [0, 1473] (hnum (n + 1) [0, 6, 1, 5, 2] (by omega) (by decide) (by decide)) ok100 (hhp2 rfl rfl) (hbT ()) (fun d h' ⟨_, _, _, e⟩ => by subst e; simp) ?_ (fun _ => ⟨by kernel_rfl, _, _, ⟨1, rfl, by simp, rfl⟩, by simp⟩)
      rintro _ _ ⟨w, rfl, hw, rfl⟩ _
      clear hw
      iterate 5 ((try (refine drv_sound (n := 12) (rs := _) Try.func69 mo rfl _ _ _ ?_; simp (maxSteps := 10000000) (maxDischargeDepth := 300) only [go_sem, Pg.cells, Ex.cells, St1.cells, isI, I64, Ex.cellsL_length, Ex.cellsL_get, St1.cellsL_length, St1.cellsL_get, rdr, Int.reduceBEq, Int.reduceEq, hz, stC_cons, List.cons_append, List.nil_append])); (try ((with_reducible refine And.intro ?_ ?_) <;> (repeat' with_reducible apply And.intro) <;> (try first | omega | (simp only [InK]; omega) | (intro k e; cases e; rfl) | (intro hguard; exact ⟨hguard, by simp only [InK]; omega⟩) | kernel_rfl))))
      exact hfin 193 _ _ _ (n + 2) vs ((.mk w t (.mk ik iv iks) (.mk vk vv vks) c b e) :: r) _ (by first | omega | (simp; omega) | simp) (by first | omega | (simp; omega) | simp) (fun _ => by rw [lsize_cons, lsize_cons]; exact congrArg (· + _) (tsize_head ..)) (by omega) (by omega) rfl rfl rfl rfl rfl rfl rfl (by decide)
  · match bd, hb4 with
    | [], hb4 =>
      have hz : ((0 : Int) < 0) = False := eq_false (by omega)
      iterate 9 ((try (refine drv_sound (n := 12) (rs := _) Try.func69 mo rfl _ _ _ ?_; simp (maxSteps := 10000000) (maxDischargeDepth := 300) only [go_sem, Pg.cells, Ex.cells, St1.cells, isI, I64, Ex.cellsL_length, Ex.cellsL_get, St1.cellsL_length, St1.cellsL_get, rdr, Int.reduceBEq, Int.reduceEq, List.length_nil, Int.natCast_zero, hz])); (try ((with_reducible refine And.intro ?_ ?_) <;> (repeat' with_reducible apply And.intro) <;> (try first | omega | (simp only [InK]; omega) | (intro k e; cases e; rfl) | (intro hguard; exact ⟨hguard, by simp only [InK]; omega⟩) | kernel_rfl))))
      exact hfin 193 _ _ _ (n + 1) vs [] _ (by first | omega | (simp; omega) | simp) (by first | omega | (simp; omega) | simp) (fun _ => rfl) (by omega) (by omega) rfl rfl rfl rfl rfl rfl rfl (by decide)
    | [a], hb4 =>
      obtain ⟨k, t, ⟨ik, iv, iks⟩, ⟨vk, vv, vks⟩, c0, b0, e0⟩ := a
      iterate 9 ((try (refine drv_sound (n := 12) (rs := _) Try.func69 mo rfl _ _ _ ?_; simp (maxSteps := 10000000) (maxDischargeDepth := 300) only [go_sem, Pg.cells, Ex.cells, St1.cells, isI, I64, Ex.cellsL_length, Ex.cellsL_get, St1.cellsL_length, St1.cellsL_get, rdr, Int.reduceBEq, Int.reduceEq, stC_cons, stC_nil, List.cons_append, List.nil_append, Int.reduceAdd, Int.reduceSub, Int.natCast_zero, List.length_nil])); (try ((with_reducible refine And.intro ?_ ?_) <;> (repeat' with_reducible apply And.intro) <;> (try first | omega | (simp only [InK]; omega) | (intro k e; cases e; rfl) | (intro hguard; exact ⟨hguard, by simp only [InK]; omega⟩) | kernel_rfl))))
      refine XK.callG [0, 1729] (hnum (n + 1) [-1, 12, 1, 9223372036854775807] (by omega) (by decide) (by decide)) ok100 (hhp2 rfl rfl) (hbT ()) (fun d h' ⟨_, _, _, e⟩ => by subst e; simp) ?_ (fun _ => ⟨by kernel_rfl, _, _, ⟨1, rfl, by simp, rfl⟩, by simp⟩)
      rintro _ _ ⟨w, rfl, hw, rfl⟩ _
      clear hw
      iterate 5 ((try (refine drv_sound (n := 12) (rs := _) Try.func69 mo rfl _ _ _ ?_; simp (maxSteps := 10000000) (maxDischargeDepth := 300) only [go_sem, Pg.cells, Ex.cells, St1.cells, isI, I64, Ex.cellsL_length, Ex.cellsL_get, St1.cellsL_length, St1.cellsL_get, rdr, Int.reduceBEq, Int.reduceEq, stC_cons, stC_nil, List.cons_append, List.nil_append, Int.reduceAdd, Int.reduceSub, Int.natCast_zero, List.length_nil])); (try ((with_reducible refine And.intro ?_ ?_) <;> (repeat' with_reducible apply And.intro) <;> (try first | omega | (simp only [InK]; omega) | (intro k e; cases e; rfl) | (intro hguard; exact ⟨hguard, by simp only [InK]; omega⟩) | kernel_rfl))))
      exact hfin 193 _ _ _ (n + 2) vs [(.mk k w (.mk ik iv iks) (.mk vk vv vks) c0 b0 e0)] _ (by first | omega | (simp; omega) | simp) (by first | omega | (simp; omega) | simp) (fun q => by simp only [lsize_cons, tsize_head q k k w t (.mk ik iv iks) (.mk ik iv iks) (.mk vk vv vks) (.mk vk vv vks) c0 c0 b0 e0]) (by omega) (by omega) rfl rfl rfl rfl rfl rfl rfl (by decide)
    | [a, b], hb4 =>
      obtain ⟨k, t, ⟨ik, iv, iks⟩, ⟨vk, vv, vks⟩, c0, b0, e0⟩ := b
      obtain ⟨ka, ta, ⟨ika, iva, iksa⟩, ⟨vka, vva, vksa⟩, ca, ba, ea⟩ := a
      iterate 9 ((try (refine drv_sound (n := 12) (rs := _) Try.func69 mo rfl _ _ _ ?_; simp (maxSteps := 10000000) (maxDischargeDepth := 300) only [go_sem, Pg.cells, Ex.cells, St1.cells, isI, I64, Ex.cellsL_length, Ex.cellsL_get, St1.cellsL_length, St1.cellsL_get, rdr, Int.reduceBEq, Int.reduceEq, stC_cons, stC_nil, List.cons_append, List.nil_append, Int.reduceAdd, Int.reduceSub, Int.natCast_zero, List.length_nil])); (try ((with_reducible refine And.intro ?_ ?_) <;> (repeat' with_reducible apply And.intro) <;> (try first | omega | (simp only [InK]; omega) | (intro k e; cases e; rfl) | (intro hguard; exact ⟨hguard, by simp only [InK]; omega⟩) | kernel_rfl))))
      refine XK.callG [0, 1729] (hnum (n + 1) [-1, 12, 1, 9223372036854775807] (by omega) (by decide) (by decide)) ok100 (hhp2 rfl rfl) (hbT ()) (fun d h' ⟨_, _, _, e⟩ => by subst e; simp) ?_ (fun _ => ⟨by kernel_rfl, _, _, ⟨1, rfl, by simp, rfl⟩, by simp⟩)
      rintro _ _ ⟨w, rfl, hw, rfl⟩ _
      clear hw
      iterate 5 ((try (refine drv_sound (n := 12) (rs := _) Try.func69 mo rfl _ _ _ ?_; simp (maxSteps := 10000000) (maxDischargeDepth := 300) only [go_sem, Pg.cells, Ex.cells, St1.cells, isI, I64, Ex.cellsL_length, Ex.cellsL_get, St1.cellsL_length, St1.cellsL_get, rdr, Int.reduceBEq, Int.reduceEq, stC_cons, stC_nil, List.cons_append, List.nil_append, Int.reduceAdd, Int.reduceSub, Int.natCast_zero, List.length_nil])); (try ((with_reducible refine And.intro ?_ ?_) <;> (repeat' with_reducible apply And.intro) <;> (try first | omega | (simp only [InK]; omega) | (intro k e; cases e; rfl) | (intro hguard; exact ⟨hguard, by simp only [InK]; omega⟩) | kernel_rfl))))
      exact hfin 193 _ _ _ (n + 2) vs [(.mk ka ta (.mk ika iva iksa) (.mk vka vva vksa) ca ba ea), (.mk k w (.mk ik iv iks) (.mk vk vv vks) c0 b0 e0)] _ (by first | omega | (simp; omega) | simp) (by first | omega | (simp; omega) | simp) (fun q => by simp only [lsize_cons, tsize_head q k k w t (.mk ik iv iks) (.mk ik iv iks) (.mk vk vv vks) (.mk vk vv vks) c0 c0 b0 e0]) (by omega) (by omega) rfl rfl rfl rfl rfl rfl rfl (by decide)
    | [a, b, c], hb4 =>
      obtain ⟨k, t, ⟨ik, iv, iks⟩, ⟨vk, vv, vks⟩, c0, b0, e0⟩ := c
      obtain ⟨ka, ta, ⟨ika, iva, iksa⟩, ⟨vka, vva, vksa⟩, ca, ba, ea⟩ := a
      obtain ⟨kb, tb, ⟨ikb, ivb, iksb⟩, ⟨vkb, vvb, vksb⟩, cb, bb, eb⟩ := b
      iterate 9 ((try (refine drv_sound (n := 12) (rs := _) Try.func69 mo rfl _ _ _ ?_; simp (maxSteps := 10000000) (maxDischargeDepth := 300) only [go_sem, Pg.cells, Ex.cells, St1.cells, isI, I64, Ex.cellsL_length, Ex.cellsL_get, St1.cellsL_length, St1.cellsL_get, rdr, Int.reduceBEq, Int.reduceEq, stC_cons, stC_nil, List.cons_append, List.nil_append, Int.reduceAdd, Int.reduceSub, Int.natCast_zero, List.length_nil])); (try ((with_reducible refine And.intro ?_ ?_) <;> (repeat' with_reducible apply And.intro) <;> (try first | omega | (simp only [InK]; omega) | (intro k e; cases e; rfl) | (intro hguard; exact ⟨hguard, by simp only [InK]; omega⟩) | kernel_rfl))))
      refine XK.callG [0, 1729] (hnum (n + 1) [-1, 12, 1, 9223372036854775807] (by omega) (by decide) (by decide)) ok100 (hhp2 rfl rfl) (hbT ()) (fun d h' ⟨_, _, _, e⟩ => by subst e; simp) ?_ (fun _ => ⟨by kernel_rfl, _, _, ⟨1, rfl, by simp, rfl⟩, by simp⟩)
      rintro _ _ ⟨w, rfl, hw, rfl⟩ _
      clear hw
      iterate 5 ((try (refine drv_sound (n := 12) (rs := _) Try.func69 mo rfl _ _ _ ?_; simp (maxSteps := 10000000) (maxDischargeDepth := 300) only [go_sem, Pg.cells, Ex.cells, St1.cells, isI, I64, Ex.cellsL_length, Ex.cellsL_get, St1.cellsL_length, St1.cellsL_get, rdr, Int.reduceBEq, Int.reduceEq, stC_cons, stC_nil, List.cons_append, List.nil_append, Int.reduceAdd, Int.reduceSub, Int.natCast_zero, List.length_nil])); (try ((with_reducible refine And.intro ?_ ?_) <;> (repeat' with_reducible apply And.intro) <;> (try first | omega | (simp only [InK]; omega) | (intro k e; cases e; rfl) | (intro hguard; exact ⟨hguard, by simp only [InK]; omega⟩) | kernel_rfl))))
      exact hfin 193 _ _ _ (n + 2) vs [(.mk ka ta (.mk ika iva iksa) (.mk vka vva vksa) ca ba ea), (.mk kb tb (.mk ikb ivb iksb) (.mk vkb vvb vksb) cb bb eb), (.mk k w (.mk ik iv iks) (.mk vk vv vks) c0 b0 e0)] _ (by first | omega | (simp; omega) | simp) (by first | omega | (simp; omega) | simp) (fun q => by simp only [lsize_cons, tsize_head q k k w t (.mk ik iv iks) (.mk ik iv iks) (.mk vk vv vks) (.mk vk vv vks) c0 c0 b0 e0]) (by omega) (by omega) rfl rfl rfl rfl rfl rfl rfl (by decide)
    | [a, b, c, d], hb4 =>
      obtain ⟨k, t, ⟨ik, iv, iks⟩, ⟨vk, vv, vks⟩, c0, b0, e0⟩ := d
      obtain ⟨ka, ta, ⟨ika, iva, iksa⟩, ⟨vka, vva, vksa⟩, ca, ba, ea⟩ := a
      obtain ⟨kb, tb, ⟨ikb, ivb, iksb⟩, ⟨vkb, vvb, vksb⟩, cb, bb, eb⟩ := b
      obtain ⟨kc, tc, ⟨ikc, ivc, iksc⟩, ⟨vkc, vvc, vksc⟩, cc, bc, ec⟩ := c
      iterate 9 ((try (refine drv_sound (n := 12) (rs := _) Try.func69 mo rfl _ _ _ ?_; simp (maxSteps := 10000000) (maxDischargeDepth := 300) only [go_sem, Pg.cells, Ex.cells, St1.cells, isI, I64, Ex.cellsL_length, Ex.cellsL_get, St1.cellsL_length, St1.cellsL_get, rdr, Int.reduceBEq, Int.reduceEq, stC_cons, stC_nil, List.cons_append, List.nil_append, Int.reduceAdd, Int.reduceSub, Int.natCast_zero, List.length_nil])); (try ((with_reducible refine And.intro ?_ ?_) <;> (repeat' with_reducible apply And.intro) <;> (try first | omega | (simp only [InK]; omega) | (intro k e; cases e; rfl) | (intro hguard; exact ⟨hguard, by simp only [InK]; omega⟩) | kernel_rfl))))
      refine XK.callG [0, 1729] (hnum (n + 1) [-1, 12, 1, 9223372036854775807] (by omega) (by decide) (by decide)) ok100 (hhp2 rfl rfl) (hbT ()) (fun d h' ⟨_, _, _, e⟩ => by subst e; simp) ?_ (fun _ => ⟨by kernel_rfl, _, _, ⟨1, rfl, by simp, rfl⟩, by simp⟩)
      rintro _ _ ⟨w, rfl, hw, rfl⟩ _
      clear hw
      iterate 5 ((try (refine drv_sound (n := 12) (rs := _) Try.func69 mo rfl _ _ _ ?_; simp (maxSteps := 10000000) (maxDischargeDepth := 300) only [go_sem, Pg.cells, Ex.cells, St1.cells, isI, I64, Ex.cellsL_length, Ex.cellsL_get, St1.cellsL_length, St1.cellsL_get, rdr, Int.reduceBEq, Int.reduceEq, stC_cons, stC_nil, List.cons_append, List.nil_append, Int.reduceAdd, Int.reduceSub, Int.natCast_zero, List.length_nil])); (try ((with_reducible refine And.intro ?_ ?_) <;> (repeat' with_reducible apply And.intro) <;> (try first | omega | (simp only [InK]; omega) | (intro k e; cases e; rfl) | (intro hguard; exact ⟨hguard, by simp only [InK]; omega⟩) | kernel_rfl))))
      exact hfin 193 _ _ _ (n + 2) vs [(.mk ka ta (.mk ika iva iksa) (.mk vka vva vksa) ca ba ea), (.mk kb tb (.mk ikb ivb iksb) (.mk vkb vvb vksb) cb bb eb), (.mk kc tc (.mk ikc ivc iksc) (.mk vkc vvc vksc) cc bc ec), (.mk k w (.mk ik iv iks) (.mk vk vv vks) c0 b0 e0)] _ (by first | omega | (simp; omega) | simp) (by first | omega | (simp; omega) | simp) (fun q => by simp only [lsize_cons, tsize_head q k k w t (.mk ik iv iks) (.mk ik iv iks) (.mk vk vv vks) (.mk vk vv vks) c0 c0 b0 e0]) (by omega) (by omega) rfl rfl rfl rfl rfl rfl rfl (by decide)
  · cases bd with
    | nil =>
      have hz : ((0 : Int) < 0) = False := eq_false (by omega)
      iterate 9 ((try (refine drv_sound (n := 12) (rs := _) Try.func69 mo rfl _ _ _ ?_; simp (maxSteps := 10000000) (maxDischargeDepth := 300) only [go_sem, Pg.cells, Ex.cells, St1.cells, isI, I64, Ex.cellsL_length, Ex.cellsL_get, St1.cellsL_length, St1.cellsL_get, rdr, Int.reduceBEq, Int.reduceEq, List.length_nil, Int.natCast_zero, hz])); (try ((with_reducible refine And.intro ?_ ?_) <;> (repeat' with_reducible apply And.intro) <;> (try first | omega | (simp only [InK]; omega) | (intro k e; cases e; rfl) | (intro hguard; exact ⟨hguard, by simp only [InK]; omega⟩) | kernel_rfl))))
      exact hfin 193 _ _ _ (n + 1) vs [] _ (by first | omega | (simp; omega) | simp) (by first | omega | (simp; omega) | simp) (fun _ => rfl) (by omega) (by omega) rfl rfl rfl rfl rfl rfl rfl (by decide)
    | cons s r =>
      obtain ⟨k, t, ⟨ik, iv, iks⟩, ⟨vk, vv, vks⟩, c, b, e⟩ := s
      have hb4 : r.length + 1 ≤ 4 := hb4
      have hz : ((0 : Int) < (r.length : Int) + 1) = True := eq_true (by omega)
      iterate 9 ((try (refine drv_sound (n := 12) (rs := _) Try.func69 mo rfl _ _ _ ?_; simp (maxSteps := 10000000) (maxDischargeDepth := 300) only [go_sem, Pg.cells, Ex.cells, St1.cells, isI, I64, Ex.cellsL_length, Ex.cellsL_get, St1.cellsL_length, St1.cellsL_get, rdr, Int.reduceBEq, Int.reduceEq, hz, stC_cons, List.cons_append, List.nil_append])); (try ((with_reducible refine And.intro ?_ ?_) <;> (repeat' with_reducible apply And.intro) <;> (try first | omega | (simp only [InK]; omega) | (intro k e; cases e; rfl) | (intro hguard; exact ⟨hguard, by simp only [InK]; omega⟩) | kernel_rfl))))
      refine XK.callG [0, 1729] (hnum (n + 1) [-1, 256, 12, 1] (by omega) (by decide) (by decide)) ok100 (hhp2 rfl rfl) (hbT ()) (fun d h' ⟨_, _, _, e⟩ => by subst e; simp) ?_ (fun _ => ⟨by kernel_rfl, _, _, ⟨1, rfl, by simp, rfl⟩, by simp⟩)
      rintro _ _ ⟨w, rfl, hw, rfl⟩ _
      clear hw
      iterate 5 ((try (refine drv_sound (n := 12) (rs := _) Try.func69 mo rfl _ _ _ ?_; simp (maxSteps := 10000000) (maxDischargeDepth := 300) only [go_sem, Pg.cells, Ex.cells, St1.cells, isI, I64, Ex.cellsL_length, Ex.cellsL_get, St1.cellsL_length, St1.cellsL_get, rdr, Int.reduceBEq, Int.reduceEq, hz, stC_cons, List.cons_append, List.nil_append])); (try ((with_reducible refine And.intro ?_ ?_) <;> (repeat' with_reducible apply And.intro) <;> (try first | omega | (simp only [InK]; omega) | (intro k e; cases e; rfl) | (intro hguard; exact ⟨hguard, by simp only [InK]; omega⟩) | kernel_rfl))))
      exact hfin 193 _ _ _ (n + 2) vs ((.mk k t (.mk ik iv iks) (.mk vk w vks) c b e) :: r) _ (by first | omega | (simp; omega) | simp) (by first | omega | (simp; omega) | simp) (fun _ => by rw [lsize_cons, lsize_cons]; exact congrArg (· + _) (tsize_head ..)) (by omega) (by omega) rfl rfl rfl rfl rfl rfl rfl (by decide)
  · cases bd with
    | nil =>
      have hz : ((0 : Int) < 0) = False := eq_false (by omega)
      iterate 9 ((try (refine drv_sound (n := 12) (rs := _) Try.func69 mo rfl _ _ _ ?_; simp (maxSteps := 10000000) (maxDischargeDepth := 300) only [go_sem, Pg.cells, Ex.cells, St1.cells, isI, I64, Ex.cellsL_length, Ex.cellsL_get, St1.cellsL_length, St1.cellsL_get, rdr, Int.reduceBEq, Int.reduceEq, List.length_nil, Int.natCast_zero, hz])); (try ((with_reducible refine And.intro ?_ ?_) <;> (repeat' with_reducible apply And.intro) <;> (try first | omega | (simp only [InK]; omega) | (intro k e; cases e; rfl) | (intro hguard; exact ⟨hguard, by simp only [InK]; omega⟩) | kernel_rfl))))
      exact hfin 193 _ _ _ (n + 1) vs [] _ (by first | omega | (simp; omega) | simp) (by first | omega | (simp; omega) | simp) (fun _ => rfl) (by omega) (by omega) rfl rfl rfl rfl rfl rfl rfl (by decide)
    | cons s r =>
      obtain ⟨k, t, ⟨ik, iv, iks⟩, ⟨vk, vv, vks⟩, c, b, e⟩ := s
      have hb4 : r.length + 1 ≤ 4 := hb4
      have hz : ((0 : Int) < (r.length : Int) + 1) = True := eq_true (by omega)
      iterate 9 ((try (refine drv_sound (n := 12) (rs := _) Try.func69 mo rfl _ _ _ ?_; simp (maxSteps := 10000000) (maxDischargeDepth := 300) only [go_sem, Pg.cells, Ex.cells, St1.cells, isI, I64, Ex.cellsL_length, Ex.cellsL_get, St1.cellsL_length, St1.cellsL_get, rdr, Int.reduceBEq, Int.reduceEq, hz, stC_cons, List.cons_append, List.nil_append])); (try ((with_reducible refine And.intro ?_ ?_) <;> (repeat' with_reducible apply And.intro) <;> (try first | omega | (simp only [InK]; omega) | (intro k e; cases e; rfl) | (intro hguard; exact ⟨hguard, by simp only [InK]; omega⟩) | kernel_rfl))))
      refine XK.callG [0, 1857] (hnum (n + 1) [1, 4, -1, 2] (by omega) (by decide) (by decide)) ok100 (hhp2 rfl rfl) (hbT ()) (fun d h' ⟨_, _, _, e⟩ => by subst e; simp) ?_ (fun _ => ⟨by kernel_rfl, _, _, ⟨1, rfl, by simp, rfl⟩, by simp⟩)
      rintro _ _ ⟨w, rfl, hw, rfl⟩ _
      clear hw
      iterate 5 ((try (refine drv_sound (n := 12) (rs := _) Try.func69 mo rfl _ _ _ ?_; simp (maxSteps := 10000000) (maxDischargeDepth := 300) only [go_sem, Pg.cells, Ex.cells, St1.cells, isI, I64, Ex.cellsL_length, Ex.cellsL_get, St1.cellsL_length, St1.cellsL_get, rdr, Int.reduceBEq, Int.reduceEq, hz, stC_cons, List.cons_append, List.nil_append])); (try ((with_reducible refine And.intro ?_ ?_) <;> (repeat' with_reducible apply And.intro) <;> (try first | omega | (simp only [InK]; omega) | (intro k e; cases e; rfl) | (intro hguard; exact ⟨hguard, by simp only [InK]; omega⟩) | kernel_rfl))))
      exact hfin 193 _ _ _ (n + 2) vs ((.mk k t (.mk ik iv iks) (.mk vk vv vks) w b e) :: r) _ (by first | omega | (simp; omega) | simp) (by first | omega | (simp; omega) | simp) (fun _ => by rw [lsize_cons, lsize_cons]; exact congrArg (· + _) (tsize_head ..)) (by omega) (by omega) rfl rfl rfl rfl rfl rfl rfl (by decide)
  · iterate 8 ((try (refine drv_sound (n := 12) (rs := _) Try.func69 mo rfl _ _ _ ?_; simp (maxSteps := 10000000) (maxDischargeDepth := 300) only [go_sem, Pg.cells, Ex.cells, St1.cells, isI, I64, Ex.cellsL_length, Ex.cellsL_get, St1.cellsL_length, St1.cellsL_get, rdr, Int.reduceBEq, Int.reduceEq])); (try ((with_reducible refine And.intro ?_ ?_) <;> (repeat' with_reducible apply And.intro) <;> (try first | omega | (simp only [InK]; omega) | (intro k e; cases e; rfl) | (intro hguard; exact ⟨hguard, by simp only [InK]; omega⟩) | kernel_rfl))))
    refine RetOb.ofQ (fun j => if j = 0 then some 0 else none) [] (.agg (Pg.cells ⟨[], [], []⟩)) [some (rdr bs ((n + 1 : Nat) : Int))] ?_ ?_ (by simp)
    · simp [enumL, hOf, DM, DMs, CM, CMs, HpOK, LowOK, upd, rdr, Pg.cells, isI, kf, St1.cellsL]
    · rw [← hR]; exact ⟨⟨[], [], []⟩, rfl, ⟨by simp, by simp, by simp, fun k => by simp [lsize]⟩, n + 1, by omega, by omega, rfl⟩
  · have e0 : (v == 0) = false := by simp [h0]
    have e1 : (v == 1) = false := by simp [h1]
    have e2 : (v == 2) = false := by simp [h2]
    have e3 : (v == 3) = false := by simp [h3]
    have e4 : (v == 4) = false := by simp [h4]
    have e5 : (v == 5) = false := by simp [h5]
    have e6 : (v == 6) = false := by simp [h6]
    iterate 8 ((try (refine drv_sound (n := 12) (rs := _) Try.func69 mo rfl _ _ _ ?_; simp (maxSteps := 10000000) (maxDischargeDepth := 300) only [go_sem, Pg.cells, Ex.cells, St1.cells, isI, I64, Ex.cellsL_length, Ex.cellsL_get, St1.cellsL_length, St1.cellsL_get, rdr, h0, h1, h2, h3, h4, h5, h6, e0, e1, e2, e3, e4, e5, e6])); (try ((with_reducible refine And.intro ?_ ?_) <;> (repeat' with_reducible apply And.intro) <;> (try first | omega | (simp only [InK]; omega) | (intro k e; cases e; rfl) | (intro hguard; exact ⟨hguard, by simp only [InK]; omega⟩) | kernel_rfl))))
    exact hfin 193 _ _ _ (n + 1) vs bd _ (by omega) (by omega) (fun _ => rfl) (by omega) (by omega) rfl rfl rfl rfl rfl rfl rfl (by decide)
end Go.Proofs.Ytclgjiffpijgmaa.CtD

namespace Go.Proofs.Ytclgjiffpijgmaa.CtD
open Go Go.CT CtF CtR

/-- A drawn program and memory, either of them perhaps invalid. -/
def dmR (r : D) (h : List (Option (List C))) : Prop := ∃ (p : Pg) (m : Mm), r = .tup [.agg p.cells, .agg m.cells] ∧ SmP p ∧ SmM m ∧ h = []
theorem fits_take {k : IntKind} {bs : List Int} (h : Fits k bs) (n : Nat) : Fits k (bs.take n) := fun x hx => h x (List.mem_of_mem_take hx)
theorem renCs_rdr (r : Nat → Nat) (bs : List Int) (n : Int) : renCs r (rdr bs n) = rdr bs n := renCs_kf r _ (rdr_kf bs n)
theorem prog_len {p : Pg} (h : progOK p = true) : 1 ≤ p.vars.length ∧ p.vars.length ≤ 12 ∧ p.arrays.length ≤ 2 := by
  simp only [progOK, headsOK, Bool.and_eq_true, decide_eq_true_eq] at h
  obtain ⟨⟨⟨⟨⟨_, h1⟩, h2⟩, h3⟩, _⟩, _⟩ := h
  omega

set_option maxHeartbeats 4000000 in
set_option maxRecDepth 10000 in
theorem drawMemoryValid (bs : List Int) (hb : Fits .u8 bs) (hl : bs.length ≤ mx) : DC Try.prog 63 [bytesD bs] [] dmR := by
  have hmx := mx_eq
  have hop := l17Open bs hl
  have hb' := fits_take hb 2000
  have hl' : (bs.take 2000).length ≤ 2000 := by rw [List.length_take]; omega
  generalize hR : dmR = R
  generalize hbs : bs.take 2000 = b2 at *
  unfold bytesD
  unfold bytesD at hop
  refine dc_of_go Try.func63 rfl (by simp) ?_
  refine drv_sound (n := 12) (rs := _) Try.func63 mo rfl none _ _ ?_
  simp (maxSteps := 10000000) (maxDischargeDepth := 300) only [go_sem, Pg.cells, Ex.cells, St1.cells, isI, I64, Ex.cellsL_length, Ex.cellsL_get, St1.cellsL_length, St1.cellsL_get]
  iterate 1 ((try (refine drv_sound (n := 12) (rs := _) Try.func63 mo rfl _ _ _ ?_; simp (maxSteps := 10000000) (maxDischargeDepth := 300) only [go_sem, Pg.cells, Ex.cells, St1.cells, isI, I64, Ex.cellsL_length, Ex.cellsL_get, St1.cellsL_length, St1.cellsL_get])); (try ((with_reducible refine And.intro ?_ ?_) <;> (repeat' with_reducible apply And.intro) <;> (try first | omega | (simp only [InK]; omega) | (intro k e; cases e; rfl) | (intro hguard; exact ⟨hguard, by simp only [InK]; omega⟩) | kernel_rfl))))
  refine XK.callG [] hop ok54 (fun i' x h => by simp at h) (hbT ()) (fun d h' ⟨_, e⟩ => by subst e; simp) ?_
  rintro _ _ ⟨rfl, rfl⟩ _
  iterate 2 ((try (refine drv_sound (n := 12) (rs := _) Try.func63 mo rfl _ _ _ ?_; simp (maxSteps := 10000000) (maxDischargeDepth := 300) only [go_sem, Pg.cells, Ex.cells, St1.cells, isI, I64, Ex.cellsL_length, Ex.cellsL_get, St1.cellsL_length, St1.cellsL_get, renCs_rdr])); (try ((with_reducible refine And.intro ?_ ?_) <;> (repeat' with_reducible apply And.intro) <;> (try first | omega | (simp only [InK]; omega) | (intro k e; cases e; rfl) | (intro hguard; exact ⟨hguard, by simp only [InK]; omega⟩) | kernel_rfl))))
  have hpr := l2Program b2 0 hb' hl' (by omega)
  refine XK.callG [192] hpr ok55 (hhp_one (by simp [upd, renCs_rdr])) (hbT ()) (fun d h' ⟨_, _, _, _, _, _, e⟩ => by subst e; simp) ?_
  rintro _ _ ⟨p, rfl, hp, n1, hn1, hn2, rfl⟩ _
  have hln := prog_len hp.ok
  have hme := l3Memory b2 n1 p hb' hl' (by omega) ⟨hln.1, hln.2.1⟩ hln.2.2
  have hmu := fun n h => l2Mutate b2 n p hb' hl' h hp
  obtain ⟨vs, ar, bd⟩ := p
  iterate 2 ((try (refine drv_sound (n := 12) (rs := _) Try.func63 mo rfl _ _ _ ?_; simp (maxSteps := 10000000) (maxDischargeDepth := 300) only [go_sem, Pg.cells, Ex.cells, St1.cells, isI, I64, Ex.cellsL_length, Ex.cellsL_get, St1.cellsL_length, St1.cellsL_get, renCs_rdr])); (try ((with_reducible refine And.intro ?_ ?_) <;> (repeat' with_reducible apply And.intro) <;> (try first | omega | (simp only [InK]; omega) | (intro k e; cases e; rfl) | (intro hguard; exact ⟨hguard, by simp only [InK]; omega⟩) | kernel_rfl))))
  refine XK.callG [192] hme ok56 (hhp_one (by simp [upd, renCs_rdr])) (hbT ()) (fun d h' ⟨_, _, _, _, _, _, e⟩ => by subst e; simp) ?_
  rintro _ _ ⟨m, rfl, hm, n2, hn3, hn4, rfl⟩ _
  have hbe := l3Bend b2 n2 m hb' hl' (by omega) (by rw [hm.nv]; exact hm.nv12.2) (by rw [hm.na]; exact hm.na2) (fun a ha => (hm.arr a ha).1)
  obtain ⟨va, arr⟩ := m
  iterate 2 ((try (refine drv_sound (n := 12) (rs := _) Try.func63 mo rfl _ _ _ ?_; simp (maxSteps := 10000000) (maxDischargeDepth := 300) only [go_sem, Pg.cells, Ex.cells, St1.cells, isI, I64, Ex.cellsL_length, Ex.cellsL_get, St1.cellsL_length, St1.cellsL_get, renCs_rdr, Mm.cells])); (try ((with_reducible refine And.intro ?_ ?_) <;> (repeat' with_reducible apply And.intro) <;> (try first | omega | (simp only [InK]; omega) | (intro k e; cases e; rfl) | (intro hguard; exact ⟨hguard, by simp only [InK]; omega⟩) | kernel_rfl))))
  refine XK.callG [192] hbe ok106 (hhp_one (by simp [upd, renCs_rdr])) (hbT ()) (fun d h' ⟨_, _, _, _, _, _, e⟩ => by subst e; simp) ?_
  rintro _ _ ⟨m2, rfl, hm2, n3, hn5, hn6, rfl⟩ _
  obtain ⟨va2, arr2⟩ := m2
  iterate 2 ((try (refine drv_sound (n := 12) (rs := _) Try.func63 mo rfl _ _ _ ?_; simp (maxSteps := 10000000) (maxDischargeDepth := 300) only [go_sem, Pg.cells, Ex.cells, St1.cells, isI, I64, Ex.cellsL_length, Ex.cellsL_get, St1.cellsL_length, St1.cellsL_get, renCs_rdr, Mm.cells])); (try ((with_reducible refine And.intro ?_ ?_) <;> (repeat' with_reducible apply And.intro) <;> (try first | omega | (simp only [InK]; omega) | (intro k e; cases e; rfl) | (intro hguard; exact ⟨hguard, by simp only [InK]; omega⟩) | kernel_rfl))))
  refine XK.callG [192] (hmu n3 (by omega)) ok69 (hhp_one (by simp [upd, renCs_rdr])) (hbT ()) (fun d h' ⟨_, _, _, _, _, _, e⟩ => by subst e; simp) ?_ (fun _ => ⟨by kernel_rfl, _, _, ⟨⟨[], [], []⟩, rfl, ⟨by simp, by simp, by simp, fun k => by simp [lsize]⟩, n3, by omega, by omega, rfl⟩, by simp⟩)
  rintro _ _ ⟨p2, rfl, hp2, n4, hn7, hn8, rfl⟩ _
  obtain ⟨vs2, ar2, bd2⟩ := p2
  iterate 3 ((try (refine drv_sound (n := 12) (rs := _) Try.func63 mo rfl _ _ _ ?_; simp (maxSteps := 10000000) (maxDischargeDepth := 300) only [go_sem, Pg.cells, Ex.cells, St1.cells, isI, I64, Ex.cellsL_length, Ex.cellsL_get, St1.cellsL_length, St1.cellsL_get, renCs_rdr, Mm.cells])); (try ((with_reducible refine And.intro ?_ ?_) <;> (repeat' with_reducible apply And.intro) <;> (try first | omega | (simp only [InK]; omega) | (intro k e; cases e; rfl) | (intro hguard; exact ⟨hguard, by simp only [InK]; omega⟩) | kernel_rfl))))
  refine RetOb.ofQ (fun _ => none) [] (.tup [.agg (Pg.cells ⟨vs2, ar2, bd2⟩), .agg (Mm.cells ⟨va2, arr2⟩)]) [] ?_ (by rw [← hR]; exact ⟨_, _, rfl, hp2, hm2, rfl⟩) (by simp)
  simp [enumL, DM, DMs, CM, CMs, HpOK, LowOK, hOf, Pg.cells, Mm.cells, isI]

set_option maxHeartbeats 4000000 in
set_option maxRecDepth 10000 in
theorem drawRunProgram (bs : List Int) (hb : Fits .u8 bs) (hl : bs.length ≤ mx) : DC Try.prog 28 [bytesD bs] [] dmR := by
  have hdm := drawMemoryValid bs hb hl
  generalize hR : dmR = R
  have hRR := hR
  unfold bytesD
  unfold bytesD at hdm
  refine dc_of_go Try.func28 rfl (by simp) ?_
  refine drv_sound (n := 12) (rs := _) Try.func28 mo rfl none _ _ ?_
  simp (maxSteps := 10000000) (maxDischargeDepth := 300) only [go_sem, Pg.cells, Ex.cells, St1.cells, isI, I64, Ex.cellsL_length, Ex.cellsL_get, St1.cellsL_length, St1.cellsL_get]
  iterate 1 ((try (refine drv_sound (n := 12) (rs := _) Try.func28 mo rfl _ _ _ ?_; simp (maxSteps := 10000000) (maxDischargeDepth := 300) only [go_sem, Pg.cells, Ex.cells, St1.cells, isI, I64, Ex.cellsL_length, Ex.cellsL_get, St1.cellsL_length, St1.cellsL_get])); (try ((with_reducible refine And.intro ?_ ?_) <;> (repeat' with_reducible apply And.intro) <;> (try first | omega | (simp only [InK]; omega) | (intro k e; cases e; rfl) | (intro hguard; exact ⟨hguard, by simp only [InK]; omega⟩) | kernel_rfl))))
  refine XK.callG [] hdm ok63 (fun i' x h => by simp at h) (hbT ()) (fun d h' ⟨_, _, _, _, _, e⟩ => by subst e; simp) ?_
  rintro _ _ ⟨⟨vs2, ar2, bd2⟩, ⟨va2, arr2⟩, rfl, hp2, hm2, rfl⟩ _
  iterate 3 ((try (refine drv_sound (n := 12) (rs := _) Try.func28 mo rfl _ _ _ ?_; simp (maxSteps := 10000000) (maxDischargeDepth := 300) only [go_sem, Pg.cells, Ex.cells, St1.cells, isI, I64, Ex.cellsL_length, Ex.cellsL_get, St1.cellsL_length, St1.cellsL_get, Mm.cells])); (try ((with_reducible refine And.intro ?_ ?_) <;> (repeat' with_reducible apply And.intro) <;> (try first | omega | (simp only [InK]; omega) | (intro k e; cases e; rfl) | (intro hguard; exact ⟨hguard, by simp only [InK]; omega⟩) | kernel_rfl))))
  refine RetOb.ofQ (fun _ => none) [] (.tup [.agg (Pg.cells ⟨vs2, ar2, bd2⟩), .agg (Mm.cells ⟨va2, arr2⟩)]) [] ?_ (by rw [← hR]; exact ⟨_, _, rfl, hp2, hm2, rfl⟩) (by simp)
  simp [enumL, DM, DMs, CM, CMs, HpOK, LowOK, hOf, Pg.cells, Mm.cells, isI]
end Go.Proofs.Ytclgjiffpijgmaa.CtD
