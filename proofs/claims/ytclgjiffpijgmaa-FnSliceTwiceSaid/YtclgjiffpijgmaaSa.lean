/- Contracts of functions of the program, one behind the other, as plain data: what each call returns and which blocks it leaves. -/
import Derived.Test.YtclgjiffpijgmaaFacts
import Derived.Test.YtclgjiffpijgmaaCtC
import Derived.Test.YtclgjiffpijgmaaVa
import Derived.Test.YtclgjiffpijgmaaRa
import Derived.Test.YtclgjiffpijgmaaDa
import Derived.Test.YtclgjiffpijgmaaVb
import Derived.Test.YtclgjiffpijgmaaRb
set_option linter.unusedVariables false
set_option linter.unusedSimpArgs false
namespace Go.Proofs.Ytclgjiffpijgmaa.CtR
open Go Go.CT CtF

abbrev BC (b : Bool) : C := .v (.bool b)
def boolsC (bs : List Bool) : List C := bs.map BC
def boolsD (bs : List Bool) : C := .isl 1 (bs.map fun b => [BC b])
theorem boolsC_kf (bs : List Bool) : ∀ c ∈ boolsC bs, kf c = true := by
  intro c hc; obtain ⟨x, _, rfl⟩ := List.mem_map.1 hc; rfl
theorem boolsC_set (bs : List Bool) (i : Nat) (b : Bool) : (boolsC bs).set i (.v (.bool b)) = boolsC (bs.set i b) := by
  unfold boolsC; rw [List.map_set]
theorem boolsC_len (bs : List Bool) : (boolsC bs).length = bs.length := by simp [boolsC]
theorem boolsC_rep (n : Nat) (b : Bool) : (List.replicate n [C.v (.bool b)]).flatten = boolsC (List.replicate n b) := by
  induction n with
  | zero => rfl
  | succ n ih => rw [List.replicate_succ, List.flatten_cons, ih, List.replicate_succ]; rfl
theorem boolsC_ren (r : Nat → Nat) (bs : List Bool) : renCs r (boolsC bs) = boolsC bs := by
  induction bs with
  | nil => rfl
  | cons a r' ih => simp only [boolsC, List.map_cons, renCs, renC] at ih ⊢; rw [ih]
theorem boolsC_flat (bs : List Bool) : (bs.map fun b => [BC b]).flatten = boolsC bs := flat1 _ _

def wStep (x : List Bool × List Bool) (s : St1) (_ : Nat) : List Bool × List Bool :=
  if s.kind = 1 ∨ s.kind = 5 then (x.1.set s.target.toNat true, x.2) else if s.kind = 2 then (x.1, x.2.set s.target.toNat true) else x
def wB0 (x : List Bool × List Bool) : List C := [.msl 2 1 0 x.1.length]
def wB1 (x : List Bool × List Bool) : List C := [.msl 3 1 0 x.2.length]
def wB2 (x : List Bool × List Bool) : List C := boolsC x.1
def wB3 (x : List Bool × List Bool) : List C := boolsC x.2

set_option maxHeartbeats 4000000 in
set_option maxRecDepth 10000 in
theorem writes1 (x : List Bool × List Bool) (s : St1) (c : Nat) (ht1 : s.kind = 1 ∨ s.kind = 5 → 0 ≤ s.target ∧ s.target < x.1.length) (ht2 : s.kind = 2 → 0 ≤ s.target ∧ s.target < x.2.length) :
    DC Try.prog 53 [.agg s.cells, DI .i64 c, .c (.ptr 0 0), .c (.ptr 1 0)] [some (wB0 x), some (wB1 x), some (wB2 x), some (wB3 x)]
      (fun r h => r = .tup [] ∧ h = [some (wB0 (wStep x s c)), some (wB1 (wStep x s c)), some (wB2 (wStep x s c)), some (wB3 (wStep x s c))]) := by
  have hmx := mx_eq
  obtain ⟨k, t, ⟨ik, iv, iks⟩, ⟨vk, vv, vks⟩, cc, b, e⟩ := s
  obtain ⟨xv, xa⟩ := x
  simp only [St1.kind, St1.target] at ht1 ht2
  generalize hR : (fun (r : D) (h : List (Option (List C))) => r = .tup [] ∧ h = [some (wB0 (wStep (xv, xa) _ c)), some (wB1 (wStep (xv, xa) _ c)), some (wB2 (wStep (xv, xa) _ c)), some (wB3 (wStep (xv, xa) _ c))]) = R
  simp only [wB0, wB1, wB2, wB3, wStep, St1.kind, St1.target] at hR ⊢
  have hlv := boolsC_len xv
  have hla := boolsC_len xa
  have fin : ∀ (yv ya : List Bool) (hp : Hp), yv.length = xv.length → ya.length = xa.length → R (.tup []) [some [.msl 2 1 0 yv.length], some [.msl 3 1 0 ya.length], some (boolsC yv), some (boolsC ya)] → hp 0 = some (some [.msl 2 1 0 xv.length]) → hp 1 = some (some [.msl 3 1 0 xa.length]) → hp 2 = some (some (boolsC yv)) → hp 3 = some (some (boolsC ya)) → RetOb 4 R (.tup []) hp := fun yv ya hp g1 g2 g3 g4 g5 g6 g7 => by
    refine RetOb.ofQ some [] (.tup []) _ ?_ g3 (by simp)
    simp [enumL, DM, DMs, CM, CMs, HpOK, LowOK, hOf, upd, g4, g5, g6, g7, g1, g2]
    exact ⟨CMs.kf (boolsC_kf _), CMs.kf (boolsC_kf _)⟩
  have key : k = 1 ∨ k = 5 ∨ k = 2 ∨ (k ≠ 1 ∧ k ≠ 5 ∧ k ≠ 2) := by omega
  rcases key with rfl | rfl | rfl | ⟨h1, h5, h2⟩
  · have ht := ht1 (.inl rfl)
    refine dc_of_go Try.func53 rfl (by simp) ?_
    refine drv_sound (n := 12) (rs := _) Try.func53 mo rfl none _ _ ?_
    simp (maxSteps := 10000000) (maxDischargeDepth := 300) only [go_sem, Pg.cells, Ex.cells, St1.cells, isI, I64, Ex.cellsL_length, Ex.cellsL_get, St1.cellsL_length, St1.cellsL_get, List.cons_append, List.nil_append, Int.reduceBEq, Int.reduceEq]
    iterate 4 ((try (refine drv_sound (n := 12) (rs := _) Try.func53 mo rfl _ _ _ ?_; simp (maxSteps := 10000000) (maxDischargeDepth := 300) only [go_sem, Pg.cells, Ex.cells, St1.cells, isI, I64, Ex.cellsL_length, Ex.cellsL_get, St1.cellsL_length, St1.cellsL_get, List.cons_append, List.nil_append, Int.reduceBEq, Int.reduceEq, boolsC_set, boolsC_len])); (try ((with_reducible refine And.intro ?_ ?_) <;> (repeat' with_reducible apply And.intro) <;> (try first | omega | (simp only [InK]; omega) | (intro k e; cases e; rfl) | (intro hguard; exact ⟨hguard, by simp only [InK]; omega⟩) | kernel_rfl))))
    exact fin (xv.set t.toNat true) xa _ (by simp) rfl (by rw [← hR]; exact ⟨rfl, rfl⟩) rfl rfl rfl rfl
  · have ht := ht1 (.inr rfl)
    refine dc_of_go Try.func53 rfl (by simp) ?_
    refine drv_sound (n := 12) (rs := _) Try.func53 mo rfl none _ _ ?_
    simp (maxSteps := 10000000) (maxDischargeDepth := 300) only [go_sem, Pg.cells, Ex.cells, St1.cells, isI, I64, Ex.cellsL_length, Ex.cellsL_get, St1.cellsL_length, St1.cellsL_get, List.cons_append, List.nil_append, Int.reduceBEq, Int.reduceEq]
    iterate 4 ((try (refine drv_sound (n := 12) (rs := _) Try.func53 mo rfl _ _ _ ?_; simp (maxSteps := 10000000) (maxDischargeDepth := 300) only [go_sem, Pg.cells, Ex.cells, St1.cells, isI, I64, Ex.cellsL_length, Ex.cellsL_get, St1.cellsL_length, St1.cellsL_get, List.cons_append, List.nil_append, Int.reduceBEq, Int.reduceEq, boolsC_set, boolsC_len])); (try ((with_reducible refine And.intro ?_ ?_) <;> (repeat' with_reducible apply And.intro) <;> (try first | omega | (simp only [InK]; omega) | (intro k e; cases e; rfl) | (intro hguard; exact ⟨hguard, by simp only [InK]; omega⟩) | kernel_rfl))))
    exact fin (xv.set t.toNat true) xa _ (by simp) rfl (by rw [← hR]; exact ⟨rfl, rfl⟩) rfl rfl rfl rfl
  · have ht := ht2 rfl
    refine dc_of_go Try.func53 rfl (by simp) ?_
    refine drv_sound (n := 12) (rs := _) Try.func53 mo rfl none _ _ ?_
    simp (maxSteps := 10000000) (maxDischargeDepth := 300) only [go_sem, Pg.cells, Ex.cells, St1.cells, isI, I64, Ex.cellsL_length, Ex.cellsL_get, St1.cellsL_length, St1.cellsL_get, List.cons_append, List.nil_append, Int.reduceBEq, Int.reduceEq]
    iterate 4 ((try (refine drv_sound (n := 12) (rs := _) Try.func53 mo rfl _ _ _ ?_; simp (maxSteps := 10000000) (maxDischargeDepth := 300) only [go_sem, Pg.cells, Ex.cells, St1.cells, isI, I64, Ex.cellsL_length, Ex.cellsL_get, St1.cellsL_length, St1.cellsL_get, List.cons_append, List.nil_append, Int.reduceBEq, Int.reduceEq, boolsC_set, boolsC_len])); (try ((with_reducible refine And.intro ?_ ?_) <;> (repeat' with_reducible apply And.intro) <;> (try first | omega | (simp only [InK]; omega) | (intro k e; cases e; rfl) | (intro hguard; exact ⟨hguard, by simp only [InK]; omega⟩) | kernel_rfl))))
    exact fin xv (xa.set t.toNat true) _ rfl (by simp) (by rw [← hR]; exact ⟨rfl, rfl⟩) rfl rfl rfl rfl
  · have e1 : (k == 1) = false := by simp [h1]
    have e5 : (k == 5) = false := by simp [h5]
    have e2 : (k == 2) = false := by simp [h2]
    refine dc_of_go Try.func53 rfl (by simp) ?_
    refine drv_sound (n := 12) (rs := _) Try.func53 mo rfl none _ _ ?_
    simp (maxSteps := 10000000) (maxDischargeDepth := 300) only [go_sem, Pg.cells, Ex.cells, St1.cells, isI, I64, Ex.cellsL_length, Ex.cellsL_get, St1.cellsL_length, St1.cellsL_get, List.cons_append, List.nil_append, h1, h5, h2, e1, e5, e2]
    iterate 4 ((try (refine drv_sound (n := 12) (rs := _) Try.func53 mo rfl _ _ _ ?_; simp (maxSteps := 10000000) (maxDischargeDepth := 300) only [go_sem, Pg.cells, Ex.cells, St1.cells, isI, I64, Ex.cellsL_length, Ex.cellsL_get, St1.cellsL_length, St1.cellsL_get, List.cons_append, List.nil_append, h1, h5, h2, e1, e5, e2])); (try ((with_reducible refine And.intro ?_ ?_) <;> (repeat' with_reducible apply And.intro) <;> (try first | omega | (simp only [InK]; omega) | (intro k e; cases e; rfl) | (intro hguard; exact ⟨hguard, by simp only [InK]; omega⟩) | kernel_rfl))))
    exact fin xv xa _ rfl rfl (by rw [← hR]; simp [h1, h5, h2]) rfl rfl rfl rfl
end Go.Proofs.Ytclgjiffpijgmaa.CtR

namespace Go.Proofs.Ytclgjiffpijgmaa.CtR
open Go Go.CT CtF

set_option maxRecDepth 10000 in
theorem cellI (p : Pg) (a : Int) (hl : p.vars.length ≤ mx) (ha : 0 ≤ a ∧ a ≤ 1000) : DC Try.prog 116 [.agg p.cells, DI .i64 a] [] (fun r h => r = DI .i64 (p.vars.length + a) ∧ h = []) := by
  have hmx := mx_eq
  obtain ⟨vs, ar, bd⟩ := p
  have hl : vs.length ≤ mx := hl
  refine dc_of_go Try.func116 rfl (by simp) ?_
  refine drv_sound (n := 12) (rs := _) Try.func116 mo rfl none _ _ ?_
  simp (maxSteps := 10000000) (maxDischargeDepth := 300) only [go_sem, Pg.cells, Ex.cells, St1.cells, isI, I64, Ex.cellsL_length, Ex.cellsL_get, St1.cellsL_length, St1.cellsL_get]
  iterate 2 ((try (refine drv_sound (n := 12) (rs := _) Try.func116 mo rfl _ _ _ ?_; simp (maxSteps := 10000000) (maxDischargeDepth := 300) only [go_sem, Pg.cells, Ex.cells, St1.cells, isI, I64, Ex.cellsL_length, Ex.cellsL_get, St1.cellsL_length, St1.cellsL_get])); (try ((with_reducible refine And.intro ?_ ?_) <;> (repeat' with_reducible apply And.intro) <;> (try first | omega | (simp only [InK]; omega) | (intro k e; cases e; rfl) | (intro hguard; exact ⟨hguard, by simp only [InK]; omega⟩) | kernel_rfl))))
  exact RetOb.plain (d := DI .i64 _) ⟨rfl, rfl⟩ rfl
set_option maxRecDepth 10000 in
theorem cellsI (p : Pg) (hl : p.vars.length ≤ mx) (hl2 : p.arrays.length ≤ mx) : DC Try.prog 70 [.agg p.cells] [] (fun r h => r = DI .i64 ((p.vars.length + p.arrays.length : Nat) : Int) ∧ h = []) := by
  have hmx := mx_eq
  obtain ⟨vs, ar, bd⟩ := p
  have hl : vs.length ≤ mx := hl
  have hl2 : ar.length ≤ mx := hl2
  refine dc_of_go Try.func70 rfl (by simp) ?_
  refine drv_sound (n := 12) (rs := _) Try.func70 mo rfl none _ _ ?_
  simp (maxSteps := 10000000) (maxDischargeDepth := 300) only [go_sem, Pg.cells, Ex.cells, St1.cells, isI, I64, Ex.cellsL_length, Ex.cellsL_get, St1.cellsL_length, St1.cellsL_get]
  iterate 2 ((try (refine drv_sound (n := 12) (rs := _) Try.func70 mo rfl _ _ _ ?_; simp (maxSteps := 10000000) (maxDischargeDepth := 300) only [go_sem, Pg.cells, Ex.cells, St1.cells, isI, I64, Ex.cellsL_length, Ex.cellsL_get, St1.cellsL_length, St1.cellsL_get])); (try ((with_reducible refine And.intro ?_ ?_) <;> (repeat' with_reducible apply And.intro) <;> (try first | omega | (simp only [InK]; omega) | (intro k e; cases e; rfl) | (intro hguard; exact ⟨hguard, by simp only [InK]; omega⟩) | kernel_rfl))))
  exact RetOb.plain (d := DI .i64 _) ⟨rfl, rfl⟩ rfl
set_option maxRecDepth 10000 in
theorem cellsS (p : Pg) (hl : p.vars.length ≤ mx) (hl2 : p.arrays.length ≤ mx) : DC Try.prog 51 [.agg p.cells] [] (fun r h => r = DI .i64 ((p.vars.length + p.arrays.length : Nat) : Int) ∧ h = []) := by
  have hmx := mx_eq
  obtain ⟨vs, ar, bd⟩ := p
  have hl : vs.length ≤ mx := hl
  have hl2 : ar.length ≤ mx := hl2
  refine dc_of_go Try.func51 rfl (by simp) ?_
  refine drv_sound (n := 12) (rs := _) Try.func51 mo rfl none _ _ ?_
  simp (maxSteps := 10000000) (maxDischargeDepth := 300) only [go_sem, Pg.cells, Ex.cells, St1.cells, isI, I64, Ex.cellsL_length, Ex.cellsL_get, St1.cellsL_length, St1.cellsL_get]
  iterate 2 ((try (refine drv_sound (n := 12) (rs := _) Try.func51 mo rfl _ _ _ ?_; simp (maxSteps := 10000000) (maxDischargeDepth := 300) only [go_sem, Pg.cells, Ex.cells, St1.cells, isI, I64, Ex.cellsL_length, Ex.cellsL_get, St1.cellsL_length, St1.cellsL_get])); (try ((with_reducible refine And.intro ?_ ?_) <;> (repeat' with_reducible apply And.intro) <;> (try first | omega | (simp only [InK]; omega) | (intro k e; cases e; rfl) | (intro hguard; exact ⟨hguard, by simp only [InK]; omega⟩) | kernel_rfl))))
  exact RetOb.plain (d := DI .i64 _) ⟨rfl, rfl⟩ rfl

/-- The cells that an expression reads, as bits. -/
def occB (nv : Nat) (k v : Int) : Nat := if k = 2 then 2 ^ v.toNat else if k = 3 then 2 ^ (nv + v.toNat) else 0
def occN (nv : Nat) : Nat → Ex → Nat
  | 0, _ => 0
  | d + 1, .mk k v ks => (ks.map (occN nv d)).foldl (fun a b => a ||| b) (occB nv k v)
theorem or_lt {a b : Nat} (ha : a < 16384) (hb : b < 16384) : a ||| b < 16384 := Nat.or_lt_two_pow (n := 14) ha hb
theorem foldl_or_lt : ∀ (l : List Nat) (a : Nat), a < 16384 → (∀ x ∈ l, x < 16384) → l.foldl (fun a b => a ||| b) a < 16384
  | [], a, h, _ => h
  | x :: r, a, h, h2 => foldl_or_lt r _ (or_lt h (h2 x (by simp))) fun y hy => h2 y (by simp [hy])
theorem pow14 {n : Nat} (h : n < 14) : 2 ^ n < 16384 := Nat.lt_of_lt_of_le (Nat.pow_lt_pow_right (by decide) h) (by decide)
theorem pow14i {n : Nat} (h : 2 ^ n < 16384) : ((2 : Int) ^ n) < 16384 := by
  have e : ((2 ^ n : Nat) : Int) = (2 : Int) ^ n := Int.natCast_pow 2 n
  omega
theorem occN_lt {p : Pg} (hn : p.vars.length + p.arrays.length ≤ 14) : ∀ (d : Nat) (e : Ex), shape p d e = true → occN p.vars.length d e < 16384
  | 0, _, _ => by simp [occN]
  | d + 1, .mk k v ks, h => by
    obtain ⟨g1, g2, g3⟩ := shape_succ h
    obtain ⟨hl3, hla, hv0, hv1⟩ := fits_len g1
    refine foldl_or_lt _ _ ?_ fun x hx => ?_
    · unfold occB
      split
      · rename_i hk; subst hk; simp only [limit] at hv1; exact pow14 (by simp at hv1; omega)
      · split
        · rename_i hk; subst hk; simp only [limit] at hv1; exact pow14 (by simp at hv1; omega)
        · decide
    · obtain ⟨y, hy, rfl⟩ := List.mem_map.1 hx
      exact occN_lt hn d y (g2 y hy)
theorem or_succ (f : Ex → Nat) (a : Nat) (ks : List Ex) (i : Nat) (x : Ex) (h : ks[i]? = some x) : ((ks.take (i + 1)).map f).foldl (fun a b => a ||| b) a = ((ks.take i).map f).foldl (fun a b => a ||| b) a ||| f x := by
  rw [List.take_add_one, h]
  simp

set_option maxHeartbeats 4000000 in
set_option maxRecDepth 10000 in
theorem occurringI (p : Pg) (hn : p.vars.length + p.arrays.length ≤ 14) : ∀ (d : Nat) (e : Ex), shape p d e = true → DC Try.prog 117 [.agg p.cells, .agg e.cells] [] (fun r h => r = DI .i64 (occN p.vars.length d e) ∧ h = []) := by
  have hmx := mx_eq
  intro d
  induction d with
  | zero => intro e h; simp [shape] at h
  | succ d ih =>
    intro e hsh
    obtain ⟨k, v, ks⟩ := e
    obtain ⟨g1, g2, g3⟩ := shape_succ hsh
    obtain ⟨hl3, hla, hv0, hv1⟩ := fits_len g1
    have hle := fun e h => occN_lt hn d e h
    have hacc0 := fun i => foldl_or_lt ((ks.take i).map (occN p.vars.length d)) (occB p.vars.length k v)
    have hmem : ∀ i, ∀ x ∈ (ks.take i).map (occN p.vars.length d), x < 16384 := fun i x hx => by
      obtain ⟨y, hy, rfl⟩ := List.mem_map.1 hx
      exact hle y (g2 y (List.mem_of_mem_take hy))
    have hcell := cellI p v (by omega) 
    have hlim : k = 2 → v < p.vars.length := fun hk => by subst hk; simpa [limit] using hv1
    have hlim3 : k = 3 → v < p.arrays.length := fun hk => by subst hk; simpa [limit] using hv1
    obtain ⟨vs, ar, bd⟩ := p
    have hn : vs.length + ar.length ≤ 14 := hn
    simp only at hlim hlim3 hacc0 hmem hcell
    have hob : occB vs.length k v < 16384 := by
      unfold occB
      split
      · rename_i hk; have := hlim hk; exact pow14 (by omega)
      · split
        · rename_i hk; have := hlim3 hk; exact pow14 (by omega)
        · decide
    have hacc := fun i => hacc0 i hob (hmem i)
    generalize hR : (fun (r : D) (h : List (Option (List C))) => r = DI .i64 (occN vs.length (d + 1) (.mk k v ks)) ∧ h = []) = R
    have key : k = 2 ∨ k = 3 ∨ (k ≠ 2 ∧ k ≠ 3) := by omega
    rcases key with hk | hk | ⟨hk2, hk3⟩
    · have hv2 := hlim hk
      have hB : ((occB vs.length k v : Nat) : Int) = 1 * 2 ^ v.toNat := by unfold occB; rw [if_pos hk, Int.natCast_pow, Int.one_mul]; rfl
      have hp := pow14 (show v.toNat < 14 by omega)
      have hpi : ((2 : Int) ^ v.toNat) < 16384 := pow14i hp
      have hpp : (0 : Int) < 2 ^ v.toNat := Int.pow_pos (by decide)
      have e2 : (k == 2) = true := by simp [hk]
      have f2 : (k = 2) = True := by simp [hk]
      have hbit : ((IntKind.i64).bits : Int) = 64 := rfl
      refine dc_of_go Try.func117 rfl (by simp) ?_
      refine drv_sound (n := 12) (rs := _) Try.func117 mo rfl none _ _ ?_
      simp (maxSteps := 10000000) (maxDischargeDepth := 300) only [go_sem, Pg.cells, Ex.cells, St1.cells, isI, I64, Ex.cellsL_length, Ex.cellsL_get, St1.cellsL_length, St1.cellsL_get, e2, f2]
      iterate 4 ((try (refine drv_sound (n := 12) (rs := _) Try.func117 mo rfl _ _ _ ?_; simp (maxSteps := 10000000) (maxDischargeDepth := 300) only [go_sem, Pg.cells, Ex.cells, St1.cells, isI, I64, Ex.cellsL_length, Ex.cellsL_get, St1.cellsL_length, St1.cellsL_get, e2, f2, hbit])); (try ((with_reducible refine And.intro ?_ ?_) <;> (repeat' with_reducible apply And.intro) <;> (try first | omega | (simp only [InK]; omega) | (intro k e; cases e; rfl) | (intro hguard; exact ⟨hguard, by simp only [InK]; omega⟩) | kernel_rfl))))
      refine Go.loopQ (fun i : Nat => [(2, .c (.ptr 0 0)), (5, DI .i64 (((ks.take i).map (occN vs.length d)).foldl (fun a b => a ||| b) (occB vs.length k v) : Nat)), (23, .c (.isl 3 (Ex.cellsL ks))), (24, DI .i64 ks.length), (25, DI .i64 i)]) (fun i => [(0, some (Pg.cells ⟨vs, ar, bd⟩))])
        4096 (fun i => i ≤ ks.length) (fun i => ks.length - i) ?_ 0 some [] _ (Nat.zero_le _) ?_
      · intro i hi again
        rcases Nat.lt_or_ge i ks.length with hlt | hge
        · obtain ⟨⟨k', v', ks'⟩, hx⟩ : ∃ x, ks[i]? = some x := ⟨ks[i], by simp [hlt]⟩
          have hsc := or_succ (occN vs.length d) (occB vs.length k v) ks i _ hx
          have ha := hacc i
          have hb := hle (.mk k' v' ks') (g2 _ (List.mem_of_getElem? hx))
          have hc := hacc (i + 1)
          rw [hsc] at hc
          simp only at hb
          generalize ((ks.take i).map (occN vs.length d)).foldl (fun a b => a ||| b) (occB vs.length k v) = acc at *
          refine drv_sound (n := 12) (rs := _) Try.func117 mo rfl none _ _ ?_
          simp (maxSteps := 10000000) (maxDischargeDepth := 300) only [go_sem, Pg.cells, Ex.cells, St1.cells, isI, I64, Ex.cellsL_length, Ex.cellsL_get, St1.cellsL_length, St1.cellsL_get, hx, hlt]
          iterate 2 ((try (refine drv_sound (n := 12) (rs := _) Try.func117 mo rfl _ _ _ ?_; simp (maxSteps := 10000000) (maxDischargeDepth := 300) only [go_sem, Pg.cells, Ex.cells, St1.cells, isI, I64, Ex.cellsL_length, Ex.cellsL_get, St1.cellsL_length, St1.cellsL_get, hx, hlt])); (try ((with_reducible refine And.intro ?_ ?_) <;> (repeat' with_reducible apply And.intro) <;> (try first | omega | (simp only [InK]; omega) | (intro k e; cases e; rfl) | (intro hguard; exact ⟨hguard, by simp only [InK]; omega⟩) | kernel_rfl))))
          refine XK.plain (ih (.mk k' v' ks') (g2 _ (List.mem_of_getElem? hx))) ok117 ?_ (hbT ())
          iterate 3 ((try (refine drv_sound (n := 12) (rs := _) Try.func117 mo rfl _ _ _ ?_; simp (maxSteps := 10000000) (maxDischargeDepth := 300) only [go_sem, Pg.cells, Ex.cells, St1.cells, isI, I64, Ex.cellsL_length, Ex.cellsL_get, St1.cellsL_length, St1.cellsL_get, hx, hlt])); (try ((with_reducible refine And.intro ?_ ?_) <;> (repeat' with_reducible apply And.intro) <;> (try first | omega | (simp only [InK]; omega) | (intro k e; cases e; rfl) | (intro hguard; exact ⟨hguard, by simp only [InK]; omega⟩) | kernel_rfl))))
          refine again (i + 1) some [] _ hlt (by omega) ?_
          simp (maxSteps := 10000000) (maxDischargeDepth := 300) only [go_sem, TmOK, DM, DMs, CM, CMs, forall_eq, exists_eq_left, Mq, HpOK, LowOK, Pg.cells, Ex.cells, St1.cells, isI, I64, Ex.cellsL_length, Ex.cellsL_get, St1.cellsL_length, St1.cellsL_get, hsc]
          simp
          rw [← List.map_take, hsc]
        · have hn : ¬ i < ks.length := by omega
          obtain rfl : i = ks.length := by omega
          refine drv_sound (n := 12) (rs := _) Try.func117 mo rfl none _ _ ?_
          simp (maxSteps := 10000000) (maxDischargeDepth := 300) only [go_sem, Pg.cells, Ex.cells, St1.cells, isI, I64, Ex.cellsL_length, Ex.cellsL_get, St1.cellsL_length, St1.cellsL_get, hn, List.take_length]
          iterate 2 ((try (refine drv_sound (n := 12) (rs := _) Try.func117 mo rfl _ _ _ ?_; simp (maxSteps := 10000000) (maxDischargeDepth := 300) only [go_sem, Pg.cells, Ex.cells, St1.cells, isI, I64, Ex.cellsL_length, Ex.cellsL_get, St1.cellsL_length, St1.cellsL_get, hn, List.take_length])); (try ((with_reducible refine And.intro ?_ ?_) <;> (repeat' with_reducible apply And.intro) <;> (try first | omega | (simp only [InK]; omega) | (intro k e; cases e; rfl) | (intro hguard; exact ⟨hguard, by simp only [InK]; omega⟩) | kernel_rfl))))
          exact RetOb.plain (d := DI .i64 _) (by rw [← hR]; exact ⟨rfl, rfl⟩) rfl
      · simp (maxSteps := 10000000) (maxDischargeDepth := 300) only [go_sem, TmOK, DM, DMs, CM, CMs, forall_eq, exists_eq_left, Mq, HpOK, LowOK, Pg.cells, Ex.cells, St1.cells, isI, I64, Ex.cellsL_length, Ex.cellsL_get, St1.cellsL_length, St1.cellsL_get, List.take_zero, List.map_nil, List.foldl_nil]
        simp [hB]
    · have hv2 := hlim3 hk
      have hB : ((occB vs.length k v : Nat) : Int) = 1 * 2 ^ ((vs.length : Int) + v).toNat := by
        have : ((vs.length : Int) + v).toNat = vs.length + v.toNat := by omega
        rw [this]; unfold occB; rw [if_neg (by omega), if_pos hk, Int.natCast_pow, Int.one_mul]; rfl
      have hp := pow14 (show ((vs.length : Int) + v).toNat < 14 by omega)
      have hpi : ((2 : Int) ^ ((vs.length : Int) + v).toNat) < 16384 := pow14i hp
      have hpp : (0 : Int) < 2 ^ ((vs.length : Int) + v).toNat := Int.pow_pos (by decide)
      have e2 : (k == 2) = false := by simp [hk]
      have f2 : (k = 2) = False := by simp [hk]
      have e3 : (k == 3) = true := by simp [hk]
      have f3 : (k = 3) = True := by simp [hk]
      have hbit : ((IntKind.i64).bits : Int) = 64 := rfl
      refine dc_of_go Try.func117 rfl (by simp) ?_
      refine drv_sound (n := 12) (rs := _) Try.func117 mo rfl none _ _ ?_
      simp (maxSteps := 10000000) (maxDischargeDepth := 300) only [go_sem, Pg.cells, Ex.cells, St1.cells, isI, I64, Ex.cellsL_length, Ex.cellsL_get, St1.cellsL_length, St1.cellsL_get, e2, f2, e3, f3]
      iterate 4 ((try (refine drv_sound (n := 12) (rs := _) Try.func117 mo rfl _ _ _ ?_; simp (maxSteps := 10000000) (maxDischargeDepth := 300) only [go_sem, Pg.cells, Ex.cells, St1.cells, isI, I64, Ex.cellsL_length, Ex.cellsL_get, St1.cellsL_length, St1.cellsL_get, e2, f2, e3, f3, hbit])); (try ((with_reducible refine And.intro ?_ ?_) <;> (repeat' with_reducible apply And.intro) <;> (try first | omega | (simp only [InK]; omega) | (intro k e; cases e; rfl) | (intro hguard; exact ⟨hguard, by simp only [InK]; omega⟩) | kernel_rfl))))
      refine XK.plain (hcell (by omega)) ok116 ?_ (hbT ())
      iterate 4 ((try (refine drv_sound (n := 12) (rs := _) Try.func117 mo rfl _ _ _ ?_; simp (maxSteps := 10000000) (maxDischargeDepth := 300) only [go_sem, Pg.cells, Ex.cells, St1.cells, isI, I64, Ex.cellsL_length, Ex.cellsL_get, St1.cellsL_length, St1.cellsL_get, e2, f2, e3, f3, hbit])); (try ((with_reducible refine And.intro ?_ ?_) <;> (repeat' with_reducible apply And.intro) <;> (try first | omega | (simp only [InK]; omega) | (intro k e; cases e; rfl) | (intro hguard; exact ⟨hguard, by simp only [InK]; omega⟩) | kernel_rfl))))
      refine Go.loopQ (fun i : Nat => [(2, .c (.ptr 0 0)), (5, DI .i64 (((ks.take i).map (occN vs.length d)).foldl (fun a b => a ||| b) (occB vs.length k v) : Nat)), (23, .c (.isl 3 (Ex.cellsL ks))), (24, DI .i64 ks.length), (25, DI .i64 i)]) (fun i => [(0, some (Pg.cells ⟨vs, ar, bd⟩))])
        4096 (fun i => i ≤ ks.length) (fun i => ks.length - i) ?_ 0 some [] _ (Nat.zero_le _) ?_
      · intro i hi again
        rcases Nat.lt_or_ge i ks.length with hlt | hge
        · obtain ⟨⟨k', v', ks'⟩, hx⟩ : ∃ x, ks[i]? = some x := ⟨ks[i], by simp [hlt]⟩
          have hsc := or_succ (occN vs.length d) (occB vs.length k v) ks i _ hx
          have ha := hacc i
          have hb := hle (.mk k' v' ks') (g2 _ (List.mem_of_getElem? hx))
          have hc := hacc (i + 1)
          rw [hsc] at hc
          simp only at hb
          generalize ((ks.take i).map (occN vs.length d)).foldl (fun a b => a ||| b) (occB vs.length k v) = acc at *
          refine drv_sound (n := 12) (rs := _) Try.func117 mo rfl none _ _ ?_
          simp (maxSteps := 10000000) (maxDischargeDepth := 300) only [go_sem, Pg.cells, Ex.cells, St1.cells, isI, I64, Ex.cellsL_length, Ex.cellsL_get, St1.cellsL_length, St1.cellsL_get, hx, hlt]
          iterate 2 ((try (refine drv_sound (n := 12) (rs := _) Try.func117 mo rfl _ _ _ ?_; simp (maxSteps := 10000000) (maxDischargeDepth := 300) only [go_sem, Pg.cells, Ex.cells, St1.cells, isI, I64, Ex.cellsL_length, Ex.cellsL_get, St1.cellsL_length, St1.cellsL_get, hx, hlt])); (try ((with_reducible refine And.intro ?_ ?_) <;> (repeat' with_reducible apply And.intro) <;> (try first | omega | (simp only [InK]; omega) | (intro k e; cases e; rfl) | (intro hguard; exact ⟨hguard, by simp only [InK]; omega⟩) | kernel_rfl))))
          refine XK.plain (ih (.mk k' v' ks') (g2 _ (List.mem_of_getElem? hx))) ok117 ?_ (hbT ())
          iterate 3 ((try (refine drv_sound (n := 12) (rs := _) Try.func117 mo rfl _ _ _ ?_; simp (maxSteps := 10000000) (maxDischargeDepth := 300) only [go_sem, Pg.cells, Ex.cells, St1.cells, isI, I64, Ex.cellsL_length, Ex.cellsL_get, St1.cellsL_length, St1.cellsL_get, hx, hlt])); (try ((with_reducible refine And.intro ?_ ?_) <;> (repeat' with_reducible apply And.intro) <;> (try first | omega | (simp only [InK]; omega) | (intro k e; cases e; rfl) | (intro hguard; exact ⟨hguard, by simp only [InK]; omega⟩) | kernel_rfl))))
          refine again (i + 1) some [] _ hlt (by omega) ?_
          simp (maxSteps := 10000000) (maxDischargeDepth := 300) only [go_sem, TmOK, DM, DMs, CM, CMs, forall_eq, exists_eq_left, Mq, HpOK, LowOK, Pg.cells, Ex.cells, St1.cells, isI, I64, Ex.cellsL_length, Ex.cellsL_get, St1.cellsL_length, St1.cellsL_get, hsc]
          simp
          rw [← List.map_take, hsc]
        · have hn : ¬ i < ks.length := by omega
          obtain rfl : i = ks.length := by omega
          refine drv_sound (n := 12) (rs := _) Try.func117 mo rfl none _ _ ?_
          simp (maxSteps := 10000000) (maxDischargeDepth := 300) only [go_sem, Pg.cells, Ex.cells, St1.cells, isI, I64, Ex.cellsL_length, Ex.cellsL_get, St1.cellsL_length, St1.cellsL_get, hn, List.take_length]
          iterate 2 ((try (refine drv_sound (n := 12) (rs := _) Try.func117 mo rfl _ _ _ ?_; simp (maxSteps := 10000000) (maxDischargeDepth := 300) only [go_sem, Pg.cells, Ex.cells, St1.cells, isI, I64, Ex.cellsL_length, Ex.cellsL_get, St1.cellsL_length, St1.cellsL_get, hn, List.take_length])); (try ((with_reducible refine And.intro ?_ ?_) <;> (repeat' with_reducible apply And.intro) <;> (try first | omega | (simp only [InK]; omega) | (intro k e; cases e; rfl) | (intro hguard; exact ⟨hguard, by simp only [InK]; omega⟩) | kernel_rfl))))
          exact RetOb.plain (d := DI .i64 _) (by rw [← hR]; exact ⟨rfl, rfl⟩) rfl
      · simp (maxSteps := 10000000) (maxDischargeDepth := 300) only [go_sem, TmOK, DM, DMs, CM, CMs, forall_eq, exists_eq_left, Mq, HpOK, LowOK, Pg.cells, Ex.cells, St1.cells, isI, I64, Ex.cellsL_length, Ex.cellsL_get, St1.cellsL_length, St1.cellsL_get, List.take_zero, List.map_nil, List.foldl_nil]
        simp [hB]
    · have hB : occB vs.length k v = 0 := by simp [occB, hk2, hk3]
      have e2 : (k == 2) = false := by simp [hk2]
      have e3 : (k == 3) = false := by simp [hk3]
      refine dc_of_go Try.func117 rfl (by simp) ?_
      refine drv_sound (n := 12) (rs := _) Try.func117 mo rfl none _ _ ?_
      simp (maxSteps := 10000000) (maxDischargeDepth := 300) only [go_sem, Pg.cells, Ex.cells, St1.cells, isI, I64, Ex.cellsL_length, Ex.cellsL_get, St1.cellsL_length, St1.cellsL_get, hk2, hk3, e2, e3]
      iterate 4 ((try (refine drv_sound (n := 12) (rs := _) Try.func117 mo rfl _ _ _ ?_; simp (maxSteps := 10000000) (maxDischargeDepth := 300) only [go_sem, Pg.cells, Ex.cells, St1.cells, isI, I64, Ex.cellsL_length, Ex.cellsL_get, St1.cellsL_length, St1.cellsL_get, e2, e3, hk2, hk3])); (try ((with_reducible refine And.intro ?_ ?_) <;> (repeat' with_reducible apply And.intro) <;> (try first | omega | (simp only [InK]; omega) | (intro k e; cases e; rfl) | (intro hguard; exact ⟨hguard, by simp only [InK]; omega⟩) | kernel_rfl))))
      refine Go.loopQ (fun i : Nat => [(2, .c (.ptr 0 0)), (5, DI .i64 (((ks.take i).map (occN vs.length d)).foldl (fun a b => a ||| b) (occB vs.length k v) : Nat)), (23, .c (.isl 3 (Ex.cellsL ks))), (24, DI .i64 ks.length), (25, DI .i64 i)]) (fun i => [(0, some (Pg.cells ⟨vs, ar, bd⟩))])
        4096 (fun i => i ≤ ks.length) (fun i => ks.length - i) ?_ 0 some [] _ (Nat.zero_le _) ?_
      · intro i hi again
        rcases Nat.lt_or_ge i ks.length with hlt | hge
        · obtain ⟨⟨k', v', ks'⟩, hx⟩ : ∃ x, ks[i]? = some x := ⟨ks[i], by simp [hlt]⟩
          have hsc := or_succ (occN vs.length d) (occB vs.length k v) ks i _ hx
          have ha := hacc i
          have hb := hle (.mk k' v' ks') (g2 _ (List.mem_of_getElem? hx))
          have hc := hacc (i + 1)
          rw [hsc] at hc
          simp only at hb
          generalize ((ks.take i).map (occN vs.length d)).foldl (fun a b => a ||| b) (occB vs.length k v) = acc at *
          refine drv_sound (n := 12) (rs := _) Try.func117 mo rfl none _ _ ?_
          simp (maxSteps := 10000000) (maxDischargeDepth := 300) only [go_sem, Pg.cells, Ex.cells, St1.cells, isI, I64, Ex.cellsL_length, Ex.cellsL_get, St1.cellsL_length, St1.cellsL_get, hx, hlt]
          iterate 2 ((try (refine drv_sound (n := 12) (rs := _) Try.func117 mo rfl _ _ _ ?_; simp (maxSteps := 10000000) (maxDischargeDepth := 300) only [go_sem, Pg.cells, Ex.cells, St1.cells, isI, I64, Ex.cellsL_length, Ex.cellsL_get, St1.cellsL_length, St1.cellsL_get, hx, hlt])); (try ((with_reducible refine And.intro ?_ ?_) <;> (repeat' with_reducible apply And.intro) <;> (try first | omega | (simp only [InK]; omega) | (intro k e; cases e; rfl) | (intro hguard; exact ⟨hguard, by simp only [InK]; omega⟩) | kernel_rfl))))
          refine XK.plain (ih (.mk k' v' ks') (g2 _ (List.mem_of_getElem? hx))) ok117 ?_ (hbT ())
          iterate 3 ((try (refine drv_sound (n := 12) (rs := _) Try.func117 mo rfl _ _ _ ?_; simp (maxSteps := 10000000) (maxDischargeDepth := 300) only [go_sem, Pg.cells, Ex.cells, St1.cells, isI, I64, Ex.cellsL_length, Ex.cellsL_get, St1.cellsL_length, St1.cellsL_get, hx, hlt])); (try ((with_reducible refine And.intro ?_ ?_) <;> (repeat' with_reducible apply And.intro) <;> (try first | omega | (simp only [InK]; omega) | (intro k e; cases e; rfl) | (intro hguard; exact ⟨hguard, by simp only [InK]; omega⟩) | kernel_rfl))))
          refine again (i + 1) some [] _ hlt (by omega) ?_
          simp (maxSteps := 10000000) (maxDischargeDepth := 300) only [go_sem, TmOK, DM, DMs, CM, CMs, forall_eq, exists_eq_left, Mq, HpOK, LowOK, Pg.cells, Ex.cells, St1.cells, isI, I64, Ex.cellsL_length, Ex.cellsL_get, St1.cellsL_length, St1.cellsL_get, hsc]
          simp
          rw [← List.map_take, hsc]
        · have hn : ¬ i < ks.length := by omega
          obtain rfl : i = ks.length := by omega
          refine drv_sound (n := 12) (rs := _) Try.func117 mo rfl none _ _ ?_
          simp (maxSteps := 10000000) (maxDischargeDepth := 300) only [go_sem, Pg.cells, Ex.cells, St1.cells, isI, I64, Ex.cellsL_length, Ex.cellsL_get, St1.cellsL_length, St1.cellsL_get, hn, List.take_length]
          iterate 2 ((try (refine drv_sound (n := 12) (rs := _) Try.func117 mo rfl _ _ _ ?_; simp (maxSteps := 10000000) (maxDischargeDepth := 300) only [go_sem, Pg.cells, Ex.cells, St1.cells, isI, I64, Ex.cellsL_length, Ex.cellsL_get, St1.cellsL_length, St1.cellsL_get, hn, List.take_length])); (try ((with_reducible refine And.intro ?_ ?_) <;> (repeat' with_reducible apply And.intro) <;> (try first | omega | (simp only [InK]; omega) | (intro k e; cases e; rfl) | (intro hguard; exact ⟨hguard, by simp only [InK]; omega⟩) | kernel_rfl))))
          exact RetOb.plain (d := DI .i64 _) (by rw [← hR]; exact ⟨rfl, rfl⟩) rfl
      · simp (maxSteps := 10000000) (maxDischargeDepth := 300) only [go_sem, TmOK, DM, DMs, CM, CMs, forall_eq, exists_eq_left, Mq, HpOK, LowOK, Pg.cells, Ex.cells, St1.cells, isI, I64, Ex.cellsL_length, Ex.cellsL_get, St1.cellsL_length, St1.cellsL_get, List.take_zero, List.map_nil, List.foldl_nil]
        simp [hB]
end Go.Proofs.Ytclgjiffpijgmaa.CtR

namespace Go.Proofs.Ytclgjiffpijgmaa.CtD
open Go Go.CT CtF CtR

set_option maxHeartbeats 2000000 in
set_option maxRecDepth 10000 in
theorem ownExpr (p : Pg) : ∀ (d : Nat) (e : Ex), CtR.shape p d e = true → DC Try.prog 118 [.agg e.cells] [] (fun r h => r = .agg e.cells ∧ h = []) := by
  have hmx := mx_eq
  intro d
  induction d with
  | zero => intro e h; simp [CtR.shape] at h
  | succ d ih =>
    intro e hsh
    obtain ⟨k, v, ks⟩ := e
    obtain ⟨g1, g2, g3⟩ := shape_succ hsh
    obtain ⟨hl3, hla, hv0, hv1⟩ := fits_len g1
    refine dc_of_go Try.func118 rfl (by simp) ?_
    refine drv_sound (n := 12) (rs := _) Try.func118 mo rfl none _ _ ?_
    simp (maxSteps := 10000000) (maxDischargeDepth := 300) only [go_sem, Pg.cells, Ex.cells, St1.cells, isI, I64, Ex.cellsL_length, Ex.cellsL_get, St1.cellsL_length, St1.cellsL_get]
    iterate 2 ((try (refine drv_sound (n := 12) (rs := _) Try.func118 mo rfl _ _ _ ?_; simp (maxSteps := 10000000) (maxDischargeDepth := 300) only [go_sem, Pg.cells, Ex.cells, St1.cells, isI, I64, Ex.cellsL_length, Ex.cellsL_get, St1.cellsL_length, St1.cellsL_get])); (try ((with_reducible refine And.intro ?_ ?_) <;> (repeat' with_reducible apply And.intro) <;> (try first | omega | (simp only [InK]; omega) | (intro k e; cases e; rfl) | (intro hguard; exact ⟨hguard, by simp only [InK]; omega⟩) | kernel_rfl))))
    refine Go.loopQ (fun i : Nat => [(1, .c (.ptr 0 0)), (2, .c (.ptr 64 0)), (3, .c (.ptr 66 0)), (12, .c (.isl 3 (Ex.cellsL ks))), (13, DI .i64 ks.length), (14, DI .i64 i)])
      (fun i => [(0, some (Ex.cells (.mk k v ks))), (64, some [I64 0, I64 0, .v (.slice none 0 0)]), (66, some [I64 k, I64 v, .msl 67 3 0 i]), (67, some (exC (ks.take i)))])
      4096 (fun i => i ≤ ks.length) (fun i => ks.length - i) ?_ 0 (fun j => if j = 66 then some 448 else if j = 67 then none else some j) [] _ (Nat.zero_le _) ?_
    · intro i hi again
      rcases Nat.lt_or_ge i ks.length with hlt | hge
      · obtain ⟨⟨k', v', ks'⟩, hx⟩ : ∃ x, ks[i]? = some x := ⟨ks[i], by simp [hlt]⟩
        have hsx : ks.take (i + 1) = ks.take i ++ [.mk k' v' ks'] := by rw [List.take_add_one, hx]; rfl
        have hel : (exC (ks.take i)).length = i * 3 := by rw [exC_len, List.length_take]; congr 1; omega
        refine drv_sound (n := 12) (rs := _) Try.func118 mo rfl none _ _ ?_
        simp (maxSteps := 10000000) (maxDischargeDepth := 300) only [go_sem, Pg.cells, Ex.cells, St1.cells, isI, I64, Ex.cellsL_length, Ex.cellsL_get, St1.cellsL_length, St1.cellsL_get, hx, hlt]
        iterate 2 ((try (refine drv_sound (n := 12) (rs := _) Try.func118 mo rfl _ _ _ ?_; simp (maxSteps := 10000000) (maxDischargeDepth := 300) only [go_sem, Pg.cells, Ex.cells, St1.cells, isI, I64, Ex.cellsL_length, Ex.cellsL_get, St1.cellsL_length, St1.cellsL_get, hx, hlt])); (try ((with_reducible refine And.intro ?_ ?_) <;> (repeat' with_reducible apply And.intro) <;> (try first | omega | (simp only [InK]; omega) | (intro k e; cases e; rfl) | (intro hguard; exact ⟨hguard, by simp only [InK]; omega⟩) | kernel_rfl))))
        refine XK.plain (ih _ (g2 _ (List.mem_of_getElem? hx))) ok118 ?_ (hbT ()) (fun _ => by kernel_rfl)
        iterate 4 ((try (refine drv_sound (n := 12) (rs := _) Try.func118 mo rfl _ _ _ ?_; simp (maxSteps := 10000000) (maxDischargeDepth := 300) only [go_sem, Pg.cells, Ex.cells, St1.cells, isI, I64, Ex.cellsL_length, Ex.cellsL_get, St1.cellsL_length, St1.cellsL_get, hx, hlt, hel])); (try ((with_reducible refine And.intro ?_ ?_) <;> (repeat' with_reducible apply And.intro) <;> (try first | omega | (simp only [InK]; omega) | (intro k e; cases e; rfl) | (intro hguard; exact ⟨hguard, by simp only [InK]; omega⟩) | kernel_rfl))))
        refine again (i + 1) (fun j => if j = 67 then some 4736 else some j) [] _ hlt (by omega) ?_
        simp (maxSteps := 10000000) (maxDischargeDepth := 300) only [go_sem, TmOK, DM, DMs, CM, CMs, forall_eq, exists_eq_left, Mq, HpOK, LowOK, Pg.cells, Ex.cells, St1.cells, isI, I64, Ex.cellsL_length, Ex.cellsL_get, St1.cellsL_length, St1.cellsL_get, hsx, exC_snoc]
        simp
        exact CMs.kf (kf_app (exC_kf _) (by simp [kf]))
      · have hn : ¬ i < ks.length := by omega
        obtain rfl : i = ks.length := by omega
        refine drv_sound (n := 12) (rs := _) Try.func118 mo rfl none _ _ ?_
        simp (maxSteps := 10000000) (maxDischargeDepth := 300) only [go_sem, Pg.cells, Ex.cells, St1.cells, isI, I64, Ex.cellsL_length, Ex.cellsL_get, St1.cellsL_length, St1.cellsL_get, hn, List.take_length]
        iterate 2 ((try (refine drv_sound (n := 12) (rs := _) Try.func118 mo rfl _ _ _ ?_; simp (maxSteps := 10000000) (maxDischargeDepth := 300) only [go_sem, Pg.cells, Ex.cells, St1.cells, isI, I64, Ex.cellsL_length, Ex.cellsL_get, St1.cellsL_length, St1.cellsL_get, hn, List.take_length])); (try ((with_reducible refine And.intro ?_ ?_) <;> (repeat' with_reducible apply And.intro) <;> (try first | omega | (simp only [InK]; omega) | (intro k e; cases e; rfl) | (intro hguard; exact ⟨hguard, by simp only [InK]; omega⟩) | kernel_rfl))))
        refine RetOb.ofQ (fun j => none) [67] (.agg (Ex.cells (.mk k v ks))) [] ?_ ⟨rfl, rfl⟩ (by simp)
        have g1 : (Ex.cellsL ks).flatten = exC ks := by rw [Ex.cellsL_eq]; rfl
        have g2 : ∀ x ∈ Ex.cellsL ks, x.length = 3 := fun x hx => by rw [Ex.cellsL_eq] at hx; obtain ⟨e, _, rfl⟩ := List.mem_map.1 hx; exact Ex.cells_len e
        have g3 : ∀ x ∈ Ex.cellsL ks, ∀ c ∈ x, kf c = true := fun x hx => by rw [Ex.cellsL_eq] at hx; obtain ⟨e, _, rfl⟩ := List.mem_map.1 hx; exact ex_kf e
        simp only [enumL, hOf, DM, DMs, CM, CMs, HpOK, LowOK, upd, Ex.cells, Ex.cellsL_length, g1]
        first | (simp; exact ⟨g2, g3⟩) | (simp [g2]; exact g3) | exact ⟨g2, g3⟩
    · simp (maxSteps := 10000000) (maxDischargeDepth := 300) only [go_sem, TmOK, DM, DMs, CM, CMs, forall_eq, exists_eq_left, Mq, HpOK, LowOK, Pg.cells, Ex.cells, St1.cells, isI, I64, Ex.cellsL_length, Ex.cellsL_get, St1.cellsL_length, St1.cellsL_get]
      simp [exC]

theorem ownExpr0 : DC Try.prog 118 [.agg (Ex.cells (.mk 0 0 []))] [] (fun r h => r = .agg (Ex.cells (.mk 0 0 [])) ∧ h = []) := by
  refine dc_of_go Try.func118 rfl (by simp) ?_
  refine drv_sound (n := 12) (rs := _) Try.func118 mo rfl none _ _ ?_
  simp (maxSteps := 10000000) (maxDischargeDepth := 300) only [go_sem, Pg.cells, Ex.cells, St1.cells, isI, I64, Ex.cellsL_length, Ex.cellsL_get, St1.cellsL_length, St1.cellsL_get, Ex.cellsL, Int.natCast_zero]
  iterate 2 ((try (refine drv_sound (n := 12) (rs := _) Try.func118 mo rfl _ _ _ ?_; simp (maxSteps := 10000000) (maxDischargeDepth := 300) only [go_sem, Pg.cells, Ex.cells, St1.cells, isI, I64, Ex.cellsL_length, Ex.cellsL_get, St1.cellsL_length, St1.cellsL_get, Ex.cellsL, Int.natCast_zero])); (try ((with_reducible refine And.intro ?_ ?_) <;> (repeat' with_reducible apply And.intro) <;> (try first | omega | (simp only [InK]; omega) | (intro k e; cases e; rfl) | (intro hguard; exact ⟨hguard, by simp only [InK]; omega⟩) | kernel_rfl))))
  refine Go.loop ?_
  have hz : ((0 : Int) < 0) = False := eq_false (by omega)
  refine drv_sound (n := 12) (rs := _) Try.func118 mo rfl none _ _ ?_
  simp (maxSteps := 10000000) (maxDischargeDepth := 300) only [go_sem, Pg.cells, Ex.cells, St1.cells, isI, I64, Ex.cellsL_length, Ex.cellsL_get, St1.cellsL_length, St1.cellsL_get, Ex.cellsL, Int.natCast_zero, hz, List.length_nil]
  iterate 2 ((try (refine drv_sound (n := 12) (rs := _) Try.func118 mo rfl _ _ _ ?_; simp (maxSteps := 10000000) (maxDischargeDepth := 300) only [go_sem, Pg.cells, Ex.cells, St1.cells, isI, I64, Ex.cellsL_length, Ex.cellsL_get, St1.cellsL_length, St1.cellsL_get, Ex.cellsL, Int.natCast_zero, hz, List.length_nil])); (try ((with_reducible refine And.intro ?_ ?_) <;> (repeat' with_reducible apply And.intro) <;> (try first | omega | (simp only [InK]; omega) | (intro k e; cases e; rfl) | (intro hguard; exact ⟨hguard, by simp only [InK]; omega⟩) | kernel_rfl))))
  refine RetOb.ofQ (fun j => none) [] (.agg (Ex.cells (.mk 0 0 []))) [] ?_ ⟨rfl, rfl⟩ (by simp)
  simp [enumL, hOf, DM, DMs, CM, CMs, HpOK, LowOK, upd, Ex.cells, Ex.cellsL]
end Go.Proofs.Ytclgjiffpijgmaa.CtD

namespace Go.Proofs.Ytclgjiffpijgmaa.CtD
open Go Go.CT CtF CtR

theorem none0_eq {e : Ex} (h : none0 e = true) : e = .mk 0 0 [] := by
  obtain ⟨k, v, ks⟩ := e
  simp only [none0, Ex.kind, Ex.value, Ex.kids, Bool.and_eq_true, beq_iff_eq, decide_eq_true_eq] at h
  obtain ⟨⟨rfl, rfl⟩, h3⟩ := h
  have : ks = [] := List.isEmpty_iff.1 h3
  rw [this]
theorem exprs_of {p : Pg} {d : Nat} {k t : Int} {ix v : Ex} {c : Int} {b e : List St1} (h : stmtOK p (d + 1) (.mk k t ix v c b e) = true) :
    (CtR.shape p 5 ix = true ∨ ix = .mk 0 0 []) ∧ (CtR.shape p 5 v = true ∨ v = .mk 0 0 []) := by
  have h1 := (stmtOK_succ h).1
  have hk := head_kind h1
  unfold headOK parts at h1
  rcases hk with ⟨hk, _, _, hr⟩ | ⟨rfl, _, _, hr, _, hr2⟩ | ⟨rfl, hr⟩ | ⟨rfl, _⟩
  · refine ⟨.inr (none0_eq ?_), .inl (right_shape hr).1⟩
    have hk4 : k ≠ 4 := by omega
    have hk2 : (k == 2) = false := by simp; omega
    simp [hk4, hk2] at h1
    exact h1.1.2.2
  · exact ⟨.inl (right_shape hr).1, .inl (right_shape hr2).1⟩
  · refine ⟨.inr (none0_eq ?_), .inl (right_shape hr).1⟩
    simp at h1
    exact h1.1.2.2
  · simp at h1
    refine ⟨.inr (none0_eq ?_), .inr (none0_eq ?_)⟩ <;> grind
theorem ownE {p : Pg} {e : Ex} (h : CtR.shape p 5 e = true ∨ e = .mk 0 0 []) : DC Try.prog 118 [.agg e.cells] [] (fun r h => r = .agg e.cells ∧ h = []) := by
  rcases h with h | rfl
  · exact ownExpr p 5 e h
  · exact ownExpr0

set_option maxHeartbeats 4000000 in
set_option maxRecDepth 10000 in
theorem ownStmts (p : Pg) : ∀ (d : Nat) (l : List St1), (∀ s ∈ l, stmtOK p d s = true) → lsize d l ≤ 1000 → DC Try.prog 74 [.c (.isl 11 (St1.cellsL l))] [] (fun r h => r = .c (.isl 11 (St1.cellsL l)) ∧ h = []) := by
  have hmx := mx_eq
  intro d
  induction d with
  | zero =>
    intro l hok hsz
    have hnil : l = [] := by
      cases l with
      | nil => rfl
      | cons a r => have := hok a (by simp); simp [stmtOK] at this
    subst hnil
    refine dc_of_go Try.func74 rfl (by simp) ?_
    refine drv_sound (n := 12) (rs := _) Try.func74 mo rfl none _ _ ?_
    simp (maxSteps := 10000000) (maxDischargeDepth := 300) only [go_sem, St1.cellsL, Int.natCast_zero]
    iterate 1 ((try (refine drv_sound (n := 12) (rs := _) Try.func74 mo rfl _ _ _ ?_; simp (maxSteps := 10000000) (maxDischargeDepth := 300) only [go_sem, St1.cellsL, Int.natCast_zero, List.length_nil])); (try ((with_reducible refine And.intro ?_ ?_) <;> (repeat' with_reducible apply And.intro) <;> (try first | omega | (simp only [InK]; omega) | (intro k e; cases e; rfl) | (intro hguard; exact ⟨hguard, by simp only [InK]; omega⟩) | kernel_rfl))))
    refine Go.loop ?_
    have hz : ((0 : Int) < 0) = False := eq_false (by omega)
    refine drv_sound (n := 12) (rs := _) Try.func74 mo rfl none _ _ ?_
    simp (maxSteps := 10000000) (maxDischargeDepth := 300) only [go_sem, St1.cellsL, Int.natCast_zero, hz, List.length_nil]
    iterate 1 ((try (refine drv_sound (n := 12) (rs := _) Try.func74 mo rfl _ _ _ ?_; simp (maxSteps := 10000000) (maxDischargeDepth := 300) only [go_sem, St1.cellsL, Int.natCast_zero, hz, List.length_nil])); (try ((with_reducible refine And.intro ?_ ?_) <;> (repeat' with_reducible apply And.intro) <;> (try first | omega | (simp only [InK]; omega) | (intro k e; cases e; rfl) | (intro hguard; exact ⟨hguard, by simp only [InK]; omega⟩) | kernel_rfl))))
    refine RetOb.ofQ (fun j => none) [] (.c (.isl 11 [])) [] ?_ ⟨rfl, rfl⟩ (by simp)
    simp [enumL, hOf, DM, CM, HpOK, LowOK, upd]
  | succ d ih =>
    intro l hok hsz
    have hsub := lsize_subs d l
    refine dc_of_go Try.func74 rfl (by simp) ?_
    refine drv_sound (n := 12) (rs := _) Try.func74 mo rfl none _ _ ?_
    simp (maxSteps := 10000000) (maxDischargeDepth := 300) only [go_sem, Pg.cells, Ex.cells, St1.cells, isI, I64, Ex.cellsL_length, Ex.cellsL_get, St1.cellsL_length, St1.cellsL_get]
    iterate 1 ((try (refine drv_sound (n := 12) (rs := _) Try.func74 mo rfl _ _ _ ?_; simp (maxSteps := 10000000) (maxDischargeDepth := 300) only [go_sem, Pg.cells, Ex.cells, St1.cells, isI, I64, Ex.cellsL_length, Ex.cellsL_get, St1.cellsL_length, St1.cellsL_get])); (try ((with_reducible refine And.intro ?_ ?_) <;> (repeat' with_reducible apply And.intro) <;> (try first | omega | (simp only [InK]; omega) | (intro k e; cases e; rfl) | (intro hguard; exact ⟨hguard, by simp only [InK]; omega⟩) | kernel_rfl))))
    refine Go.loopQ (fun i : Nat => [(3, .c (.msl 67 11 0 i)), (6, .c (.isl 11 (St1.cellsL l))), (7, DI .i64 l.length), (8, DI .i64 i)]) (fun i => [(67, some (stC (l.take i)))])
      4096 (fun i => i ≤ l.length) (fun i => l.length - i) ?_ 0 (fun j => none) [] _ (Nat.zero_le _) ?_
    · intro i hi again
      rcases Nat.lt_or_ge i l.length with hlt | hge
      · obtain ⟨⟨k, t, ⟨ik, iv, iks⟩, ⟨vk, vv, vks⟩, c, b, e⟩, hx⟩ : ∃ x, l[i]? = some x := ⟨l[i], by simp [hlt]⟩
        have hsx : l.take (i + 1) = l.take i ++ [.mk k t (.mk ik iv iks) (.mk vk vv vks) c b e] := by rw [List.take_add_one, hx]; rfl
        have hel : (stC (l.take i)).length = i * 11 := by rw [stC_len, List.length_take]; congr 1; omega
        have hsok := hok _ (List.mem_of_getElem? hx)
        have hex := exprs_of hsok
        have hbe := stmtOK_succ hsok
        have a1 := tsum_succ (subs d) l i _ hx
        have a2 := tsum_le (subs d) l (i + 1)
        simp only [subs, St1.body, St1.els] at a1 a2
        have ihb := ih b hbe.2.1 (by omega)
        have ihe := ih e hbe.2.2 (by omega)
        refine drv_sound (n := 12) (rs := _) Try.func74 mo rfl none _ _ ?_
        simp (maxSteps := 10000000) (maxDischargeDepth := 300) only [go_sem, Pg.cells, Ex.cells, St1.cells, isI, I64, Ex.cellsL_length, Ex.cellsL_get, St1.cellsL_length, St1.cellsL_get, hx, hlt, List.cons_append, List.nil_append]
        iterate 3 ((try (refine drv_sound (n := 12) (rs := _) Try.func74 mo rfl _ _ _ ?_; simp (maxSteps := 10000000) (maxDischargeDepth := 300) only [go_sem, Pg.cells, Ex.cells, St1.cells, isI, I64, Ex.cellsL_length, Ex.cellsL_get, St1.cellsL_length, St1.cellsL_get, hx, hlt, List.cons_append, List.nil_append])); (try ((with_reducible refine And.intro ?_ ?_) <;> (repeat' with_reducible apply And.intro) <;> (try first | omega | (simp only [InK]; omega) | (intro k e; cases e; rfl) | (intro hguard; exact ⟨hguard, by simp only [InK]; omega⟩) | kernel_rfl))))
        refine XK.plain (ownE hex.1) ok118 ?_ (hbT ()) (fun _ => by kernel_rfl)
        iterate 2 ((try (refine drv_sound (n := 12) (rs := _) Try.func74 mo rfl _ _ _ ?_; simp (maxSteps := 10000000) (maxDischargeDepth := 300) only [go_sem, Pg.cells, Ex.cells, St1.cells, isI, I64, Ex.cellsL_length, Ex.cellsL_get, St1.cellsL_length, St1.cellsL_get, List.cons_append, List.nil_append])); (try ((with_reducible refine And.intro ?_ ?_) <;> (repeat' with_reducible apply And.intro) <;> (try first | omega | (simp only [InK]; omega) | (intro k e; cases e; rfl) | (intro hguard; exact ⟨hguard, by simp only [InK]; omega⟩) | kernel_rfl))))
        refine XK.plain (ownE hex.2) ok118 ?_ (hbT ()) (fun _ => by kernel_rfl)
        iterate 2 ((try (refine drv_sound (n := 12) (rs := _) Try.func74 mo rfl _ _ _ ?_; simp (maxSteps := 10000000) (maxDischargeDepth := 300) only [go_sem, Pg.cells, Ex.cells, St1.cells, isI, I64, Ex.cellsL_length, Ex.cellsL_get, St1.cellsL_length, St1.cellsL_get, List.cons_append, List.nil_append])); (try ((with_reducible refine And.intro ?_ ?_) <;> (repeat' with_reducible apply And.intro) <;> (try first | omega | (simp only [InK]; omega) | (intro k e; cases e; rfl) | (intro hguard; exact ⟨hguard, by simp only [InK]; omega⟩) | kernel_rfl))))
        refine XK.plain ihb ok74 ?_ (hbT ()) (fun _ => by kernel_rfl)
        iterate 2 ((try (refine drv_sound (n := 12) (rs := _) Try.func74 mo rfl _ _ _ ?_; simp (maxSteps := 10000000) (maxDischargeDepth := 300) only [go_sem, Pg.cells, Ex.cells, St1.cells, isI, I64, Ex.cellsL_length, Ex.cellsL_get, St1.cellsL_length, St1.cellsL_get, List.cons_append, List.nil_append])); (try ((with_reducible refine And.intro ?_ ?_) <;> (repeat' with_reducible apply And.intro) <;> (try first | omega | (simp only [InK]; omega) | (intro k e; cases e; rfl) | (intro hguard; exact ⟨hguard, by simp only [InK]; omega⟩) | kernel_rfl))))
        refine XK.plain ihe ok74 ?_ (hbT ()) (fun _ => by kernel_rfl)
        iterate 4 ((try (refine drv_sound (n := 12) (rs := _) Try.func74 mo rfl _ _ _ ?_; simp (maxSteps := 10000000) (maxDischargeDepth := 300) only [go_sem, Pg.cells, Ex.cells, St1.cells, isI, I64, Ex.cellsL_length, Ex.cellsL_get, St1.cellsL_length, St1.cellsL_get, List.cons_append, List.nil_append, hel])); (try ((with_reducible refine And.intro ?_ ?_) <;> (repeat' with_reducible apply And.intro) <;> (try first | omega | (simp only [InK]; omega) | (intro k e; cases e; rfl) | (intro hguard; exact ⟨hguard, by simp only [InK]; omega⟩) | kernel_rfl))))
        refine again (i + 1) (fun j => if j = 67 then some 5760 else some j) [] _ hlt (by omega) ?_
        simp (maxSteps := 10000000) (maxDischargeDepth := 300) only [go_sem, TmOK, DM, DMs, CM, CMs, forall_eq, exists_eq_left, Mq, HpOK, LowOK, Pg.cells, Ex.cells, St1.cells, isI, I64, Ex.cellsL_length, Ex.cellsL_get, St1.cellsL_length, St1.cellsL_get, hsx, stC_snoc, List.cons_append, List.nil_append]
        simp
        exact CMs.kf (kf_app (stC_kf _) (by simp [kf]))
      · have hn : ¬ i < l.length := by omega
        obtain rfl : i = l.length := by omega
        refine drv_sound (n := 12) (rs := _) Try.func74 mo rfl none _ _ ?_
        simp (maxSteps := 10000000) (maxDischargeDepth := 300) only [go_sem, Pg.cells, Ex.cells, St1.cells, isI, I64, Ex.cellsL_length, Ex.cellsL_get, St1.cellsL_length, St1.cellsL_get, hn, List.take_length]
        iterate 2 ((try (refine drv_sound (n := 12) (rs := _) Try.func74 mo rfl _ _ _ ?_; simp (maxSteps := 10000000) (maxDischargeDepth := 300) only [go_sem, Pg.cells, Ex.cells, St1.cells, isI, I64, Ex.cellsL_length, Ex.cellsL_get, St1.cellsL_length, St1.cellsL_get, hn, List.take_length])); (try ((with_reducible refine And.intro ?_ ?_) <;> (repeat' with_reducible apply And.intro) <;> (try first | omega | (simp only [InK]; omega) | (intro k e; cases e; rfl) | (intro hguard; exact ⟨hguard, by simp only [InK]; omega⟩) | kernel_rfl))))
        refine RetOb.ofQ (fun j => none) [67] (.c (.isl 11 (St1.cellsL l))) [] ?_ ⟨rfl, rfl⟩ (by simp)
        have g1 : (St1.cellsL l).flatten = stC l := by rw [St1.cellsL_eq]; rfl
        have g2 : ∀ x ∈ St1.cellsL l, x.length = 11 := fun x hx => by rw [St1.cellsL_eq] at hx; obtain ⟨e, _, rfl⟩ := List.mem_map.1 hx; exact St1.cells_len e
        have g3 : ∀ x ∈ St1.cellsL l, ∀ c ∈ x, kf c = true := fun x hx => by rw [St1.cellsL_eq] at hx; obtain ⟨e, _, rfl⟩ := List.mem_map.1 hx; exact st_kf e
        simp only [enumL, hOf, DM, DMs, CM, CMs, HpOK, LowOK, upd, St1.cellsL_length, g1]
        first | (simp; exact ⟨g2, g3⟩) | (simp [g2]; exact g3) | exact ⟨g2, g3⟩
    · simp (maxSteps := 10000000) (maxDischargeDepth := 300) only [go_sem, TmOK, DM, DMs, CM, CMs, forall_eq, exists_eq_left, Mq, HpOK, LowOK, Pg.cells, Ex.cells, St1.cells, isI, I64, Ex.cellsL_length, Ex.cellsL_get, St1.cellsL_length, St1.cellsL_get]
      simp [stC]
end Go.Proofs.Ytclgjiffpijgmaa.CtD

namespace Go.Proofs.Ytclgjiffpijgmaa.CtD
open Go Go.CT CtF CtR

/-- A statement of a slice, the wanted cells given as a predicate. -/
def cutS (q : Nat → Bool) (nv : Nat) (f : List St1 → List St1) : St1 → Option St1
  | .mk k t ix v c b e =>
    if k = 5 then some (.mk k t ix v c b e) else if k = 1 then (if q t.toNat then some (.mk k t ix v c b e) else none) else if k = 2 then (if q (nv + t.toNat) then some (.mk k t ix v c b e) else none)
    else if 0 < (f b).length + (f e).length then some (.mk k t ix v c (f b) (f e)) else none
def cutL (q : Nat → Bool) (nv : Nat) : Nat → List St1 → List St1
  | 0, _ => []
  | d + 1, l => l.filterMap (cutS q nv (cutL q nv d))
/-- The cells that the statements of a slice read, added to a set. -/
def addS (q : Nat → Bool) (nv : Nat) (f : List St1 → List St1) (g : List St1 → Nat) (a : Nat) : St1 → Nat
  | .mk k t ix v c b e =>
    let a1 := if k = 5 ∨ k = 1 ∨ k = 2 then a else a ||| (g b ||| g e)
    if (cutS q nv f (.mk k t ix v c b e)).isSome then a1 ||| (occN nv 5 v ||| occN nv 5 ix) else a1
def setN (q : Nat → Bool) (nv : Nat) : Nat → List St1 → Nat
  | 0, _ => 0
  | d + 1, l => l.foldl (addS q nv (cutL q nv d) (setN q nv d)) 0

theorem occurring0 (p : Pg) : DC Try.prog 117 [.agg p.cells, .agg (Ex.cells (.mk 0 0 []))] [] (fun r h => r = DI .i64 ((0 : Nat) : Int) ∧ h = []) := by
  obtain ⟨vs, ar, bd⟩ := p
  refine dc_of_go Try.func117 rfl (by simp) ?_
  refine drv_sound (n := 12) (rs := _) Try.func117 mo rfl none _ _ ?_
  simp (maxSteps := 10000000) (maxDischargeDepth := 300) only [go_sem, Pg.cells, Ex.cells, St1.cells, isI, I64, Ex.cellsL_length, Ex.cellsL_get, St1.cellsL_length, St1.cellsL_get, Ex.cellsL, Int.natCast_zero, Int.reduceBEq, Int.reduceEq]
  iterate 3 ((try (refine drv_sound (n := 12) (rs := _) Try.func117 mo rfl _ _ _ ?_; simp (maxSteps := 10000000) (maxDischargeDepth := 300) only [go_sem, Pg.cells, Ex.cells, St1.cells, isI, I64, Ex.cellsL_length, Ex.cellsL_get, St1.cellsL_length, St1.cellsL_get, Ex.cellsL, Int.natCast_zero, Int.reduceBEq, Int.reduceEq, List.length_nil])); (try ((with_reducible refine And.intro ?_ ?_) <;> (repeat' with_reducible apply And.intro) <;> (try first | omega | (simp only [InK]; omega) | (intro k e; cases e; rfl) | (intro hguard; exact ⟨hguard, by simp only [InK]; omega⟩) | kernel_rfl))))
  refine Go.loop ?_
  have hz : ((0 : Int) < 0) = False := eq_false (by omega)
  refine drv_sound (n := 12) (rs := _) Try.func117 mo rfl none _ _ ?_
  simp (maxSteps := 10000000) (maxDischargeDepth := 300) only [go_sem, Pg.cells, Ex.cells, St1.cells, isI, I64, Ex.cellsL_length, Ex.cellsL_get, St1.cellsL_length, St1.cellsL_get, Ex.cellsL, Int.natCast_zero, hz, List.length_nil]
  iterate 2 ((try (refine drv_sound (n := 12) (rs := _) Try.func117 mo rfl _ _ _ ?_; simp (maxSteps := 10000000) (maxDischargeDepth := 300) only [go_sem, Pg.cells, Ex.cells, St1.cells, isI, I64, Ex.cellsL_length, Ex.cellsL_get, St1.cellsL_length, St1.cellsL_get, Ex.cellsL, Int.natCast_zero, hz, List.length_nil])); (try ((with_reducible refine And.intro ?_ ?_) <;> (repeat' with_reducible apply And.intro) <;> (try first | omega | (simp only [InK]; omega) | (intro k e; cases e; rfl) | (intro hguard; exact ⟨hguard, by simp only [InK]; omega⟩) | kernel_rfl))))
  exact RetOb.plain (d := DI .i64 _) ⟨rfl, rfl⟩ rfl
theorem occE {p : Pg} {e : Ex} (hn : p.vars.length + p.arrays.length ≤ 14) (h : CtR.shape p 5 e = true ∨ e = .mk 0 0 []) : DC Try.prog 117 [.agg p.cells, .agg e.cells] [] (fun r h => r = DI .i64 (occN p.vars.length 5 e) ∧ h = []) := by
  rcases h with h | rfl
  · exact occurringI p hn 5 e h
  · exact occurring0 p
theorem occE_lt {p : Pg} {e : Ex} (hn : p.vars.length + p.arrays.length ≤ 14) (h : CtR.shape p 5 e = true ∨ e = .mk 0 0 []) : occN p.vars.length 5 e < 16384 := by
  rcases h with h | rfl
  · exact occN_lt hn 5 e h
  · simp [occN, occB]
theorem tbit (N k : Nat) : ((((N : Int) / 2 ^ k).toNat &&& 1 : Nat) : Int) = if N.testBit k then 1 else 0 := by
  have e : ((N : Int) / 2 ^ k).toNat = N / 2 ^ k := by
    have : ((2 : Int) ^ k) = ((2 ^ k : Nat) : Int) := by rw [Int.natCast_pow]; rfl
    rw [this, ← Int.natCast_ediv]; rfl
  rw [e, Nat.and_one_is_mod, Nat.testBit_eq_decide_div_mod_eq]
  by_cases h : N / 2 ^ k % 2 = 1
  · simp [h]
  · have : N / 2 ^ k % 2 = 0 := by omega
    simp [this]
theorem addS_lt {p : Pg} {q : Nat → Bool} {f : List St1 → List St1} {g : List St1 → Nat} (hn : p.vars.length + p.arrays.length ≤ 14) {d a : Nat} {s : St1} (ha : a < 16384) (hg : ∀ l, (∀ x ∈ l, stmtOK p d x = true) → g l < 16384) (hs : stmtOK p (d + 1) s = true) : addS q p.vars.length f g a s < 16384 := by
  obtain ⟨k, t, ix, v, c, b, e⟩ := s
  have hx := exprs_of hs
  have hbe := stmtOK_succ hs
  simp only [addS]
  have h1 : (if k = 5 ∨ k = 1 ∨ k = 2 then a else a ||| (g b ||| g e)) < 16384 := by
    split
    · exact ha
    · exact or_lt ha (or_lt (hg b hbe.2.1) (hg e hbe.2.2))
  split
  · exact or_lt h1 (or_lt (occE_lt hn hx.2) (occE_lt hn hx.1))
  · exact h1
theorem setN_lt {p : Pg} {q : Nat → Bool} (hn : p.vars.length + p.arrays.length ≤ 14) : ∀ (d : Nat) (l : List St1), (∀ s ∈ l, stmtOK p d s = true) → setN q p.vars.length d l < 16384
  | 0, l, _ => by simp [setN]
  | d + 1, l, h => by
    simp only [setN]
    have gen : ∀ (l : List St1) (a : Nat), a < 16384 → (∀ s ∈ l, stmtOK p (d + 1) s = true) → l.foldl (addS q p.vars.length (cutL q p.vars.length d) (setN q p.vars.length d)) a < 16384 := fun l => by
      induction l with
      | nil => intro a ha _; exact ha
      | cons s r ih => intro a ha hs; exact ih _ (addS_lt hn ha (fun l hl => setN_lt hn d l hl) (hs s (by simp))) fun x hx => hs x (by simp [hx])
    exact gen l 0 (by decide) h

set_option maxHeartbeats 16000000 in
set_option maxRecDepth 10000 in
theorem sliceI (p : Pg) (hn : p.vars.length + p.arrays.length ≤ 14) (N : Nat) (hN : N < 16384) : ∀ (d : Nat) (l : List St1), (∀ s ∈ l, stmtOK p d s = true) → lsize d l ≤ 1000 →
    DC Try.prog 72 [.agg p.cells, .c (.isl 11 (St1.cellsL l)), DI .i64 N] [] (fun r h => r = .tup [.c (.isl 11 (St1.cellsL (cutL N.testBit p.vars.length d l))), DI .i64 (setN N.testBit p.vars.length d l)] ∧ h = []) := by
  have hmx := mx_eq
  intro d
  induction d with
  | zero =>
    intro l hok hsz
    have hnil : l = [] := by
      cases l with
      | nil => rfl
      | cons a r => have := hok a (by simp); simp [stmtOK] at this
    subst hnil
    obtain ⟨vs, ar, bd⟩ := p
    refine dc_of_go Try.func72 rfl (by simp) ?_
    refine drv_sound (n := 12) (rs := _) Try.func72 mo rfl none _ _ ?_
    simp (maxSteps := 10000000) (maxDischargeDepth := 300) only [go_sem, Pg.cells, Ex.cells, St1.cells, isI, I64, Ex.cellsL_length, Ex.cellsL_get, St1.cellsL_length, St1.cellsL_get, St1.cellsL, Int.natCast_zero]
    iterate 2 ((try (refine drv_sound (n := 12) (rs := _) Try.func72 mo rfl _ _ _ ?_; simp (maxSteps := 10000000) (maxDischargeDepth := 300) only [go_sem, Pg.cells, Ex.cells, St1.cells, isI, I64, Ex.cellsL_length, Ex.cellsL_get, St1.cellsL_length, St1.cellsL_get, St1.cellsL, Int.natCast_zero, List.length_nil])); (try ((with_reducible refine And.intro ?_ ?_) <;> (repeat' with_reducible apply And.intro) <;> (try first | omega | (simp only [InK]; omega) | (intro k e; cases e; rfl) | (intro hguard; exact ⟨hguard, by simp only [InK]; omega⟩) | kernel_rfl))))
    refine Go.loop ?_
    have hz : ((0 : Int) < 0) = False := eq_false (by omega)
    refine drv_sound (n := 12) (rs := _) Try.func72 mo rfl none _ _ ?_
    simp (maxSteps := 10000000) (maxDischargeDepth := 300) only [go_sem, Pg.cells, Ex.cells, St1.cells, isI, I64, Ex.cellsL_length, Ex.cellsL_get, St1.cellsL_length, St1.cellsL_get, St1.cellsL, Int.natCast_zero, hz, List.length_nil]
    iterate 2 ((try (refine drv_sound (n := 12) (rs := _) Try.func72 mo rfl _ _ _ ?_; simp (maxSteps := 10000000) (maxDischargeDepth := 300) only [go_sem, Pg.cells, Ex.cells, St1.cells, isI, I64, Ex.cellsL_length, Ex.cellsL_get, St1.cellsL_length, St1.cellsL_get, St1.cellsL, Int.natCast_zero, hz, List.length_nil])); (try ((with_reducible refine And.intro ?_ ?_) <;> (repeat' with_reducible apply And.intro) <;> (try first | omega | (simp only [InK]; omega) | (intro k e; cases e; rfl) | (intro hguard; exact ⟨hguard, by simp only [InK]; omega⟩) | kernel_rfl))))
    refine RetOb.ofQ (fun j => none) [] (.tup [.c (.isl 11 []), DI .i64 0]) [] ?_ ⟨by simp [cutL, setN, St1.cellsL], rfl⟩ (by simp)
    simp [enumL, hOf, DM, DMs, CM, HpOK, LowOK, upd]
  | succ d ih =>
    intro l hok hsz
    have hsub := lsize_subs d l
    have hsetl := fun l h => setN_lt (q := N.testBit) hn d l h
    have hpre : ∀ i, (∀ s ∈ l.take i, stmtOK p (d + 1) s = true) := fun i s hs => hok s (List.mem_of_mem_take hs)
    have hsetp := fun i => setN_lt (q := N.testBit) hn (d + 1) (l.take i) (hpre i)
    have hcl : ∀ {i : Nat} {s : St1}, l[i]? = some s → cutL N.testBit p.vars.length (d + 1) (l.take (i + 1)) = cutL N.testBit p.vars.length (d + 1) (l.take i) ++ (cutS N.testBit p.vars.length (cutL N.testBit p.vars.length d) s).toList := fun {i s} h => by
      simp only [cutL]; rw [List.take_add_one, h, List.filterMap_append]
      cases h2 : cutS N.testBit p.vars.length (cutL N.testBit p.vars.length d) s <;> simp [List.filterMap_cons, h2]
    have hst : ∀ {i : Nat} {s : St1}, l[i]? = some s → setN N.testBit p.vars.length (d + 1) (l.take (i + 1)) = addS N.testBit p.vars.length (cutL N.testBit p.vars.length d) (setN N.testBit p.vars.length d) (setN N.testBit p.vars.length (d + 1) (l.take i)) s := fun {i s} h => by
      simp only [setN]; rw [List.take_add_one, h]; simp
    have hcll : ∀ i, (cutL N.testBit p.vars.length (d + 1) (l.take i)).length ≤ i := fun i => by
      simp only [cutL]; exact Nat.le_trans (List.length_filterMap_le _ _) (by simp; omega)
    have hcellI := fun a h => cellI p a (by omega) h
    have hoccE := fun e h => @occE p e hn h
    have hoccL := fun e h => @occE_lt p e hn h
    obtain ⟨vs, ar, bd⟩ := p
    have hn : vs.length + ar.length ≤ 14 := hn
    simp only at hsetl hsetp hcl hst hcll hcellI hoccE hoccL ih
    generalize hR : (fun (r : D) (h : List (Option (List C))) => r = .tup [.c (.isl 11 (St1.cellsL (cutL N.testBit vs.length (d + 1) l))), DI .i64 (setN N.testBit vs.length (d + 1) l)] ∧ h = []) = R
    refine dc_of_go Try.func72 rfl (by simp) ?_
    refine drv_sound (n := 12) (rs := _) Try.func72 mo rfl none _ _ ?_
    simp (maxSteps := 10000000) (maxDischargeDepth := 300) only [go_sem, Pg.cells, Ex.cells, St1.cells, isI, I64, Ex.cellsL_length, Ex.cellsL_get, St1.cellsL_length, St1.cellsL_get]
    iterate 2 ((try (refine drv_sound (n := 12) (rs := _) Try.func72 mo rfl _ _ _ ?_; simp (maxSteps := 10000000) (maxDischargeDepth := 300) only [go_sem, Pg.cells, Ex.cells, St1.cells, isI, I64, Ex.cellsL_length, Ex.cellsL_get, St1.cellsL_length, St1.cellsL_get])); (try ((with_reducible refine And.intro ?_ ?_) <;> (repeat' with_reducible apply And.intro) <;> (try first | omega | (simp only [InK]; omega) | (intro k e; cases e; rfl) | (intro hguard; exact ⟨hguard, by simp only [InK]; omega⟩) | kernel_rfl))))
    refine Go.loopQ (fun i : Nat => [(2, DI .i64 N), (3, .c (.ptr 0 0)), (8, .c (.msl 67 11 0 (cutL N.testBit vs.length (d + 1) (l.take i)).length)), (9, DI .i64 (setN N.testBit vs.length (d + 1) (l.take i))), (17, .c (.isl 11 (St1.cellsL l))), (18, DI .i64 l.length), (19, DI .i64 i)])
      (fun i => [(0, some (Pg.cells ⟨vs, ar, bd⟩)), (67, some (stC (cutL N.testBit vs.length (d + 1) (l.take i))))])
      4096 (fun i => i ≤ l.length) (fun i => l.length - i) ?_ 0 (fun j => if j = 67 then none else some j) [] _ (Nat.zero_le _) ?_
    · intro i hi again
      have hli := hcll i
      have hsi := hsetp i
      rcases Nat.lt_or_ge i l.length with hlt | hge
      · obtain ⟨⟨k, t, ⟨ik, iv, iks⟩, ⟨vk, vv, vks⟩, c, b, e⟩, hx⟩ : ∃ x, l[i]? = some x := ⟨l[i], by simp [hlt]⟩
        have hsok := hok _ (List.mem_of_getElem? hx)
        have hex := exprs_of hsok
        have hbe := stmtOK_succ hsok
        have hhk := head_kind hbe.1
        simp only at hhk
        have a1 := tsum_succ (subs d) l i _ hx
        have a2 := tsum_le (subs d) l (i + 1)
        simp only [subs, St1.body, St1.els] at a1 a2
        have ihb := ih b hbe.2.1 (by omega)
        have ihe := ih e hbe.2.2 (by omega)
        have hsb := hsetl b hbe.2.1
        have hse := hsetl e hbe.2.2
        have ho1 := hoccE _ hex.2
        have ho2 := hoccE _ hex.1
        have hl1 := hoccL _ hex.2
        have hl2 := hoccL _ hex.1
        have hci := hcl hx
        have hsi2 := hst hx
        have hel := stC_len (cutL N.testBit vs.length (d + 1) (l.take i))
        generalize hCi : cutL N.testBit vs.length (d + 1) (l.take i) = Ci at *
        generalize hSi : setN N.testBit vs.length (d + 1) (l.take i) = Si at *
        generalize hov : occN vs.length 5 (.mk vk vv vks) = ov at *
        generalize hoi : occN vs.length 5 (.mk ik iv iks) = oi at *
        have hor := or_lt hl1 hl2
        have hor2 := or_lt hsi hor
        have key : k = 5 ∨ k = 1 ∨ k = 2 ∨ (k ≠ 5 ∧ k ≠ 1 ∧ k ≠ 2) := by omega
        rcases key with hk | hk | hk | ⟨hk5, hk1, hk2⟩
        · subst hk
          refine drv_sound (n := 12) (rs := _) Try.func72 mo rfl none _ _ ?_
          simp (maxSteps := 10000000) (maxDischargeDepth := 300) only [go_sem, Pg.cells, Ex.cells, St1.cells, isI, I64, Ex.cellsL_length, Ex.cellsL_get, St1.cellsL_length, St1.cellsL_get, List.cons_append, List.nil_append, hx, hlt, Int.reduceBEq, Int.reduceEq]
          iterate 4 ((try (refine drv_sound (n := 12) (rs := _) Try.func72 mo rfl _ _ _ ?_; simp (maxSteps := 10000000) (maxDischargeDepth := 300) only [go_sem, Pg.cells, Ex.cells, St1.cells, isI, I64, Ex.cellsL_length, Ex.cellsL_get, St1.cellsL_length, St1.cellsL_get, List.cons_append, List.nil_append, Int.reduceBEq, Int.reduceEq])); (try ((with_reducible refine And.intro ?_ ?_) <;> (repeat' with_reducible apply And.intro) <;> (try first | omega | (simp only [InK]; omega) | (intro k e; cases e; rfl) | (intro hguard; exact ⟨hguard, by simp only [InK]; omega⟩) | kernel_rfl))))
          have hcut : cutS N.testBit vs.length (cutL N.testBit vs.length d) (.mk 5 t (.mk ik iv iks) (.mk vk vv vks) c b e) = some (.mk 5 t (.mk ik iv iks) (.mk vk vv vks) c b e) := by simp [cutS]
          have hadd : addS N.testBit vs.length (cutL N.testBit vs.length d) (setN N.testBit vs.length d) Si (.mk 5 t (.mk ik iv iks) (.mk vk vv vks) c b e) = Si ||| (ov ||| oi) := by simp only [addS, hcut, Option.isSome_some, if_true, hov, hoi]; simp
          rw [hcut, Option.toList_some] at hci
          rw [hadd] at hsi2
          refine XK.plain ho1 ok117 ?_ (hbT ()) (fun _ => by kernel_rfl)
          iterate 2 ((try (refine drv_sound (n := 12) (rs := _) Try.func72 mo rfl _ _ _ ?_; simp (maxSteps := 10000000) (maxDischargeDepth := 300) only [go_sem, Pg.cells, Ex.cells, St1.cells, isI, I64, Ex.cellsL_length, Ex.cellsL_get, St1.cellsL_length, St1.cellsL_get, List.cons_append, List.nil_append])); (try ((with_reducible refine And.intro ?_ ?_) <;> (repeat' with_reducible apply And.intro) <;> (try first | omega | (simp only [InK]; omega) | (intro k e; cases e; rfl) | (intro hguard; exact ⟨hguard, by simp only [InK]; omega⟩) | kernel_rfl))))
          refine XK.plain ho2 ok117 ?_ (hbT ()) (fun _ => by kernel_rfl)
          iterate 5 ((try (refine drv_sound (n := 12) (rs := _) Try.func72 mo rfl _ _ _ ?_; simp (maxSteps := 10000000) (maxDischargeDepth := 300) only [go_sem, Pg.cells, Ex.cells, St1.cells, isI, I64, Ex.cellsL_length, Ex.cellsL_get, St1.cellsL_length, St1.cellsL_get, List.cons_append, List.nil_append, hel])); (try ((with_reducible refine And.intro ?_ ?_) <;> (repeat' with_reducible apply And.intro) <;> (try first | omega | (simp only [InK]; omega) | (intro k e; cases e; rfl) | (intro hguard; exact ⟨hguard, by simp only [InK]; omega⟩) | kernel_rfl))))
          refine again (i + 1) (fun j => if j = 67 then some 5824 else some j) [] _ hlt (by omega) ?_
          simp (maxSteps := 10000000) (maxDischargeDepth := 300) only [go_sem, TmOK, DM, DMs, CM, CMs, forall_eq, exists_eq_left, Mq, HpOK, LowOK, Pg.cells, Ex.cells, St1.cells, isI, I64, Ex.cellsL_length, Ex.cellsL_get, St1.cellsL_length, St1.cellsL_get, List.cons_append, List.nil_append, hci, hsi2, stC_snoc, List.length_append]
          simp
          exact CMs.kf (kf_app (stC_kf _) (by simp [kf]))
        · subst hk
          have ht : 0 ≤ t ∧ t < (vs.length : Int) := by omega
          have hdv0 : (0 : Int) ≤ (N : Int) / 2 ^ t.toNat := Int.ediv_nonneg (by omega) (Int.le_of_lt (Int.pow_pos (by decide)))
          have hdv1 : (N : Int) / 2 ^ t.toNat ≤ N := Int.ediv_le_self _ (by omega)
          have htb := tbit N (t.toNat)
          have hbits : ((IntKind.i64).bits : Int) = 64 := rfl
          cases hq : N.testBit (t.toNat) with
          | true =>
            rw [hq] at htb
            skip
            simp only [if_true] at htb
            refine drv_sound (n := 12) (rs := _) Try.func72 mo rfl none _ _ ?_
            simp (maxSteps := 10000000) (maxDischargeDepth := 300) only [go_sem, Pg.cells, Ex.cells, St1.cells, isI, I64, Ex.cellsL_length, Ex.cellsL_get, St1.cellsL_length, St1.cellsL_get, List.cons_append, List.nil_append, hx, hlt, Int.reduceBEq, Int.reduceEq]
            iterate 6 ((try (refine drv_sound (n := 12) (rs := _) Try.func72 mo rfl _ _ _ ?_; simp (maxSteps := 10000000) (maxDischargeDepth := 300) only [go_sem, Pg.cells, Ex.cells, St1.cells, isI, I64, Ex.cellsL_length, Ex.cellsL_get, St1.cellsL_length, St1.cellsL_get, List.cons_append, List.nil_append, Int.reduceBEq, Int.reduceEq, hbits, htb])); (try ((with_reducible refine And.intro ?_ ?_) <;> (repeat' with_reducible apply And.intro) <;> (try first | omega | (simp only [InK]; omega) | (intro k e; cases e; rfl) | (intro hguard; exact ⟨hguard, by simp only [InK]; omega⟩) | kernel_rfl))))
            have hcut : cutS N.testBit vs.length (cutL N.testBit vs.length d) (.mk 1 t (.mk ik iv iks) (.mk vk vv vks) c b e) = some (.mk 1 t (.mk ik iv iks) (.mk vk vv vks) c b e) := by simp [cutS, hq]
            have hadd : addS N.testBit vs.length (cutL N.testBit vs.length d) (setN N.testBit vs.length d) Si (.mk 1 t (.mk ik iv iks) (.mk vk vv vks) c b e) = Si ||| (ov ||| oi) := by simp only [addS, hcut, Option.isSome_some, if_true, hov, hoi]; simp
            rw [hcut, Option.toList_some] at hci
            rw [hadd] at hsi2
            refine XK.plain ho1 ok117 ?_ (hbT ()) (fun _ => by kernel_rfl)
            iterate 2 ((try (refine drv_sound (n := 12) (rs := _) Try.func72 mo rfl _ _ _ ?_; simp (maxSteps := 10000000) (maxDischargeDepth := 300) only [go_sem, Pg.cells, Ex.cells, St1.cells, isI, I64, Ex.cellsL_length, Ex.cellsL_get, St1.cellsL_length, St1.cellsL_get, List.cons_append, List.nil_append])); (try ((with_reducible refine And.intro ?_ ?_) <;> (repeat' with_reducible apply And.intro) <;> (try first | omega | (simp only [InK]; omega) | (intro k e; cases e; rfl) | (intro hguard; exact ⟨hguard, by simp only [InK]; omega⟩) | kernel_rfl))))
            refine XK.plain ho2 ok117 ?_ (hbT ()) (fun _ => by kernel_rfl)
            iterate 5 ((try (refine drv_sound (n := 12) (rs := _) Try.func72 mo rfl _ _ _ ?_; simp (maxSteps := 10000000) (maxDischargeDepth := 300) only [go_sem, Pg.cells, Ex.cells, St1.cells, isI, I64, Ex.cellsL_length, Ex.cellsL_get, St1.cellsL_length, St1.cellsL_get, List.cons_append, List.nil_append, hel])); (try ((with_reducible refine And.intro ?_ ?_) <;> (repeat' with_reducible apply And.intro) <;> (try first | omega | (simp only [InK]; omega) | (intro k e; cases e; rfl) | (intro hguard; exact ⟨hguard, by simp only [InK]; omega⟩) | kernel_rfl))))
            refine again (i + 1) (fun j => if j = 67 then some 6336 else some j) [] _ hlt (by omega) ?_
            simp (maxSteps := 10000000) (maxDischargeDepth := 300) only [go_sem, TmOK, DM, DMs, CM, CMs, forall_eq, exists_eq_left, Mq, HpOK, LowOK, Pg.cells, Ex.cells, St1.cells, isI, I64, Ex.cellsL_length, Ex.cellsL_get, St1.cellsL_length, St1.cellsL_get, List.cons_append, List.nil_append, hci, hsi2, stC_snoc, List.length_append]
            simp
            exact CMs.kf (kf_app (stC_kf _) (by simp [kf]))
          | false =>
            rw [hq] at htb
            skip
            simp only [Bool.false_eq_true, if_false] at htb
            refine drv_sound (n := 12) (rs := _) Try.func72 mo rfl none _ _ ?_
            simp (maxSteps := 10000000) (maxDischargeDepth := 300) only [go_sem, Pg.cells, Ex.cells, St1.cells, isI, I64, Ex.cellsL_length, Ex.cellsL_get, St1.cellsL_length, St1.cellsL_get, List.cons_append, List.nil_append, hx, hlt, Int.reduceBEq, Int.reduceEq]
            iterate 6 ((try (refine drv_sound (n := 12) (rs := _) Try.func72 mo rfl _ _ _ ?_; simp (maxSteps := 10000000) (maxDischargeDepth := 300) only [go_sem, Pg.cells, Ex.cells, St1.cells, isI, I64, Ex.cellsL_length, Ex.cellsL_get, St1.cellsL_length, St1.cellsL_get, List.cons_append, List.nil_append, Int.reduceBEq, Int.reduceEq, hbits, htb])); (try ((with_reducible refine And.intro ?_ ?_) <;> (repeat' with_reducible apply And.intro) <;> (try first | omega | (simp only [InK]; omega) | (intro k e; cases e; rfl) | (intro hguard; exact ⟨hguard, by simp only [InK]; omega⟩) | kernel_rfl))))
            have hcut : cutS N.testBit vs.length (cutL N.testBit vs.length d) (.mk 1 t (.mk ik iv iks) (.mk vk vv vks) c b e) = none := by simp [cutS, hq]
            have hadd : addS N.testBit vs.length (cutL N.testBit vs.length d) (setN N.testBit vs.length d) Si (.mk 1 t (.mk ik iv iks) (.mk vk vv vks) c b e) = Si := by simp only [addS, hcut, Option.isSome_none, Bool.false_eq_true, if_false]; simp
            rw [hcut, Option.toList_none, List.append_nil] at hci
            rw [hadd] at hsi2
            refine again (i + 1) some [] _ hlt (by omega) ?_
            simp (maxSteps := 10000000) (maxDischargeDepth := 300) only [go_sem, TmOK, DM, DMs, CM, CMs, forall_eq, exists_eq_left, Mq, HpOK, LowOK, Pg.cells, Ex.cells, St1.cells, isI, I64, Ex.cellsL_length, Ex.cellsL_get, St1.cellsL_length, St1.cellsL_get, List.cons_append, List.nil_append, hci, hsi2]
            simp
            exact CMs.kf (stC_kf _)
        · subst hk
          have ht : 0 ≤ t ∧ t < (ar.length : Int) := by omega
          have hdv0 : (0 : Int) ≤ (N : Int) / 2 ^ ((vs.length : Int) + t).toNat := Int.ediv_nonneg (by omega) (Int.le_of_lt (Int.pow_pos (by decide)))
          have hdv1 : (N : Int) / 2 ^ ((vs.length : Int) + t).toNat ≤ N := Int.ediv_le_self _ (by omega)
          have htb := tbit N (((vs.length : Int) + t).toNat)
          have hbits : ((IntKind.i64).bits : Int) = 64 := rfl
          have hpos : ((vs.length : Int) + t).toNat = vs.length + t.toNat := by omega
          cases hq : N.testBit (vs.length + t.toNat) with
          | true =>
            rw [hpos, hq] at htb
            rw [← hpos] at htb
            simp only [if_true] at htb
            refine drv_sound (n := 12) (rs := _) Try.func72 mo rfl none _ _ ?_
            simp (maxSteps := 10000000) (maxDischargeDepth := 300) only [go_sem, Pg.cells, Ex.cells, St1.cells, isI, I64, Ex.cellsL_length, Ex.cellsL_get, St1.cellsL_length, St1.cellsL_get, List.cons_append, List.nil_append, hx, hlt, Int.reduceBEq, Int.reduceEq]
            iterate 6 ((try (refine drv_sound (n := 12) (rs := _) Try.func72 mo rfl _ _ _ ?_; simp (maxSteps := 10000000) (maxDischargeDepth := 300) only [go_sem, Pg.cells, Ex.cells, St1.cells, isI, I64, Ex.cellsL_length, Ex.cellsL_get, St1.cellsL_length, St1.cellsL_get, List.cons_append, List.nil_append, Int.reduceBEq, Int.reduceEq, hbits, htb])); (try ((with_reducible refine And.intro ?_ ?_) <;> (repeat' with_reducible apply And.intro) <;> (try first | omega | (simp only [InK]; omega) | (intro k e; cases e; rfl) | (intro hguard; exact ⟨hguard, by simp only [InK]; omega⟩) | kernel_rfl))))
            refine XK.plain (hcellI t (by omega)) ok116 ?_ (hbT ())
            iterate 6 ((try (refine drv_sound (n := 12) (rs := _) Try.func72 mo rfl _ _ _ ?_; simp (maxSteps := 10000000) (maxDischargeDepth := 300) only [go_sem, Pg.cells, Ex.cells, St1.cells, isI, I64, Ex.cellsL_length, Ex.cellsL_get, St1.cellsL_length, St1.cellsL_get, List.cons_append, List.nil_append, Int.reduceBEq, Int.reduceEq, hbits, htb])); (try ((with_reducible refine And.intro ?_ ?_) <;> (repeat' with_reducible apply And.intro) <;> (try first | omega | (simp only [InK]; omega) | (intro k e; cases e; rfl) | (intro hguard; exact ⟨hguard, by simp only [InK]; omega⟩) | kernel_rfl))))
            have hcut : cutS N.testBit vs.length (cutL N.testBit vs.length d) (.mk 2 t (.mk ik iv iks) (.mk vk vv vks) c b e) = some (.mk 2 t (.mk ik iv iks) (.mk vk vv vks) c b e) := by simp [cutS, hq]
            have hadd : addS N.testBit vs.length (cutL N.testBit vs.length d) (setN N.testBit vs.length d) Si (.mk 2 t (.mk ik iv iks) (.mk vk vv vks) c b e) = Si ||| (ov ||| oi) := by simp only [addS, hcut, Option.isSome_some, if_true, hov, hoi]; simp
            rw [hcut, Option.toList_some] at hci
            rw [hadd] at hsi2
            refine XK.plain ho1 ok117 ?_ (hbT ()) (fun _ => by kernel_rfl)
            iterate 2 ((try (refine drv_sound (n := 12) (rs := _) Try.func72 mo rfl _ _ _ ?_; simp (maxSteps := 10000000) (maxDischargeDepth := 300) only [go_sem, Pg.cells, Ex.cells, St1.cells, isI, I64, Ex.cellsL_length, Ex.cellsL_get, St1.cellsL_length, St1.cellsL_get, List.cons_append, List.nil_append])); (try ((with_reducible refine And.intro ?_ ?_) <;> (repeat' with_reducible apply And.intro) <;> (try first | omega | (simp only [InK]; omega) | (intro k e; cases e; rfl) | (intro hguard; exact ⟨hguard, by simp only [InK]; omega⟩) | kernel_rfl))))
            refine XK.plain ho2 ok117 ?_ (hbT ()) (fun _ => by kernel_rfl)
            iterate 5 ((try (refine drv_sound (n := 12) (rs := _) Try.func72 mo rfl _ _ _ ?_; simp (maxSteps := 10000000) (maxDischargeDepth := 300) only [go_sem, Pg.cells, Ex.cells, St1.cells, isI, I64, Ex.cellsL_length, Ex.cellsL_get, St1.cellsL_length, St1.cellsL_get, List.cons_append, List.nil_append, hel])); (try ((with_reducible refine And.intro ?_ ?_) <;> (repeat' with_reducible apply And.intro) <;> (try first | omega | (simp only [InK]; omega) | (intro k e; cases e; rfl) | (intro hguard; exact ⟨hguard, by simp only [InK]; omega⟩) | kernel_rfl))))
            refine again (i + 1) (fun j => if j = 67 then some 6592 else some j) [] _ hlt (by omega) ?_
            simp (maxSteps := 10000000) (maxDischargeDepth := 300) only [go_sem, TmOK, DM, DMs, CM, CMs, forall_eq, exists_eq_left, Mq, HpOK, LowOK, Pg.cells, Ex.cells, St1.cells, isI, I64, Ex.cellsL_length, Ex.cellsL_get, St1.cellsL_length, St1.cellsL_get, List.cons_append, List.nil_append, hci, hsi2, stC_snoc, List.length_append]
            simp
            exact CMs.kf (kf_app (stC_kf _) (by simp [kf]))
          | false =>
            rw [hpos, hq] at htb
            rw [← hpos] at htb
            simp only [Bool.false_eq_true, if_false] at htb
            refine drv_sound (n := 12) (rs := _) Try.func72 mo rfl none _ _ ?_
            simp (maxSteps := 10000000) (maxDischargeDepth := 300) only [go_sem, Pg.cells, Ex.cells, St1.cells, isI, I64, Ex.cellsL_length, Ex.cellsL_get, St1.cellsL_length, St1.cellsL_get, List.cons_append, List.nil_append, hx, hlt, Int.reduceBEq, Int.reduceEq]
            iterate 6 ((try (refine drv_sound (n := 12) (rs := _) Try.func72 mo rfl _ _ _ ?_; simp (maxSteps := 10000000) (maxDischargeDepth := 300) only [go_sem, Pg.cells, Ex.cells, St1.cells, isI, I64, Ex.cellsL_length, Ex.cellsL_get, St1.cellsL_length, St1.cellsL_get, List.cons_append, List.nil_append, Int.reduceBEq, Int.reduceEq, hbits, htb])); (try ((with_reducible refine And.intro ?_ ?_) <;> (repeat' with_reducible apply And.intro) <;> (try first | omega | (simp only [InK]; omega) | (intro k e; cases e; rfl) | (intro hguard; exact ⟨hguard, by simp only [InK]; omega⟩) | kernel_rfl))))
            refine XK.plain (hcellI t (by omega)) ok116 ?_ (hbT ())
            iterate 6 ((try (refine drv_sound (n := 12) (rs := _) Try.func72 mo rfl _ _ _ ?_; simp (maxSteps := 10000000) (maxDischargeDepth := 300) only [go_sem, Pg.cells, Ex.cells, St1.cells, isI, I64, Ex.cellsL_length, Ex.cellsL_get, St1.cellsL_length, St1.cellsL_get, List.cons_append, List.nil_append, Int.reduceBEq, Int.reduceEq, hbits, htb])); (try ((with_reducible refine And.intro ?_ ?_) <;> (repeat' with_reducible apply And.intro) <;> (try first | omega | (simp only [InK]; omega) | (intro k e; cases e; rfl) | (intro hguard; exact ⟨hguard, by simp only [InK]; omega⟩) | kernel_rfl))))
            have hcut : cutS N.testBit vs.length (cutL N.testBit vs.length d) (.mk 2 t (.mk ik iv iks) (.mk vk vv vks) c b e) = none := by simp [cutS, hq]
            have hadd : addS N.testBit vs.length (cutL N.testBit vs.length d) (setN N.testBit vs.length d) Si (.mk 2 t (.mk ik iv iks) (.mk vk vv vks) c b e) = Si := by simp only [addS, hcut, Option.isSome_none, Bool.false_eq_true, if_false]; simp
            rw [hcut, Option.toList_none, List.append_nil] at hci
            rw [hadd] at hsi2
            refine again (i + 1) some [] _ hlt (by omega) ?_
            simp (maxSteps := 10000000) (maxDischargeDepth := 300) only [go_sem, TmOK, DM, DMs, CM, CMs, forall_eq, exists_eq_left, Mq, HpOK, LowOK, Pg.cells, Ex.cells, St1.cells, isI, I64, Ex.cellsL_length, Ex.cellsL_get, St1.cellsL_length, St1.cellsL_get, List.cons_append, List.nil_append, hci, hsi2]
            simp
            exact CMs.kf (stC_kf _)
        · have e5 : (k == 5) = false := by simp [hk5]
          have e1 : (k == 1) = false := by simp [hk1]
          have e2 : (k == 2) = false := by simp [hk2]
          have hlb : (cutL N.testBit vs.length d b).length ≤ 1000 := by
            cases d with
            | zero => simp [cutL]
            | succ d => simp only [cutL]; exact Nat.le_trans (List.length_filterMap_le _ _) (by have := lsize_subs d b; omega)
          have hle : (cutL N.testBit vs.length d e).length ≤ 1000 := by
            cases d with
            | zero => simp [cutL]
            | succ d => simp only [cutL]; exact Nat.le_trans (List.length_filterMap_le _ _) (by have := lsize_subs d e; omega)
          have hcS : cutS N.testBit vs.length (cutL N.testBit vs.length d) (.mk k t (.mk ik iv iks) (.mk vk vv vks) c b e) = if 0 < (cutL N.testBit vs.length d b).length + (cutL N.testBit vs.length d e).length then some (.mk k t (.mk ik iv iks) (.mk vk vv vks) c (cutL N.testBit vs.length d b) (cutL N.testBit vs.length d e)) else none := by simp [cutS, hk5, hk1, hk2]
          have hor3 := or_lt hsi (or_lt hsb hse)
          have hor4 := or_lt hor3 hor
          have hor5 := or_lt hsb hse
          refine drv_sound (n := 12) (rs := _) Try.func72 mo rfl none _ _ ?_
          simp (maxSteps := 10000000) (maxDischargeDepth := 300) only [go_sem, Pg.cells, Ex.cells, St1.cells, isI, I64, Ex.cellsL_length, Ex.cellsL_get, St1.cellsL_length, St1.cellsL_get, List.cons_append, List.nil_append, hx, hlt, e5, e1, e2, hk5, hk1, hk2]
          iterate 4 ((try (refine drv_sound (n := 12) (rs := _) Try.func72 mo rfl _ _ _ ?_; simp (maxSteps := 10000000) (maxDischargeDepth := 300) only [go_sem, Pg.cells, Ex.cells, St1.cells, isI, I64, Ex.cellsL_length, Ex.cellsL_get, St1.cellsL_length, St1.cellsL_get, List.cons_append, List.nil_append, e5, e1, e2, hk5, hk1, hk2])); (try ((with_reducible refine And.intro ?_ ?_) <;> (repeat' with_reducible apply And.intro) <;> (try first | omega | (simp only [InK]; omega) | (intro k e; cases e; rfl) | (intro hguard; exact ⟨hguard, by simp only [InK]; omega⟩) | kernel_rfl))))
          refine XK.plain ihb ok72 ?_ (hbT ())
          iterate 3 ((try (refine drv_sound (n := 12) (rs := _) Try.func72 mo rfl _ _ _ ?_; simp (maxSteps := 10000000) (maxDischargeDepth := 300) only [go_sem, Pg.cells, Ex.cells, St1.cells, isI, I64, Ex.cellsL_length, Ex.cellsL_get, St1.cellsL_length, St1.cellsL_get, List.cons_append, List.nil_append])); (try ((with_reducible refine And.intro ?_ ?_) <;> (repeat' with_reducible apply And.intro) <;> (try first | omega | (simp only [InK]; omega) | (intro k e; cases e; rfl) | (intro hguard; exact ⟨hguard, by simp only [InK]; omega⟩) | kernel_rfl))))
          refine XK.plain ihe ok72 ?_ (hbT ())
          by_cases hpos : 0 < (cutL N.testBit vs.length d b).length + (cutL N.testBit vs.length d e).length
          · have hp1 : ((0 : Int) < ((cutL N.testBit vs.length d b).length : Int) + ((cutL N.testBit vs.length d e).length : Int)) = True := eq_true (by omega)
            rw [if_pos hpos] at hcS
            iterate 6 ((try (refine drv_sound (n := 12) (rs := _) Try.func72 mo rfl _ _ _ ?_; simp (maxSteps := 10000000) (maxDischargeDepth := 300) only [go_sem, Pg.cells, Ex.cells, St1.cells, isI, I64, Ex.cellsL_length, Ex.cellsL_get, St1.cellsL_length, St1.cellsL_get, List.cons_append, List.nil_append, hp1])); (try ((with_reducible refine And.intro ?_ ?_) <;> (repeat' with_reducible apply And.intro) <;> (try first | omega | (simp only [InK]; omega) | (intro k e; cases e; rfl) | (intro hguard; exact ⟨hguard, by simp only [InK]; omega⟩) | kernel_rfl))))
            have hcut : cutS N.testBit vs.length (cutL N.testBit vs.length d) (.mk k t (.mk ik iv iks) (.mk vk vv vks) c b e) = some (.mk k t (.mk ik iv iks) (.mk vk vv vks) c (cutL N.testBit vs.length d b) (cutL N.testBit vs.length d e)) := by exact hcS
            have hadd : addS N.testBit vs.length (cutL N.testBit vs.length d) (setN N.testBit vs.length d) Si (.mk k t (.mk ik iv iks) (.mk vk vv vks) c b e) = (Si ||| (setN N.testBit vs.length d b ||| setN N.testBit vs.length d e)) ||| (ov ||| oi) := by simp only [addS, hcut, Option.isSome_some, if_true, hov, hoi]; simp [hk5, hk1, hk2]
            rw [hcut, Option.toList_some] at hci
            rw [hadd] at hsi2
            refine XK.plain ho1 ok117 ?_ (hbT ()) (fun _ => by kernel_rfl)
            iterate 2 ((try (refine drv_sound (n := 12) (rs := _) Try.func72 mo rfl _ _ _ ?_; simp (maxSteps := 10000000) (maxDischargeDepth := 300) only [go_sem, Pg.cells, Ex.cells, St1.cells, isI, I64, Ex.cellsL_length, Ex.cellsL_get, St1.cellsL_length, St1.cellsL_get, List.cons_append, List.nil_append])); (try ((with_reducible refine And.intro ?_ ?_) <;> (repeat' with_reducible apply And.intro) <;> (try first | omega | (simp only [InK]; omega) | (intro k e; cases e; rfl) | (intro hguard; exact ⟨hguard, by simp only [InK]; omega⟩) | kernel_rfl))))
            refine XK.plain ho2 ok117 ?_ (hbT ()) (fun _ => by kernel_rfl)
            iterate 5 ((try (refine drv_sound (n := 12) (rs := _) Try.func72 mo rfl _ _ _ ?_; simp (maxSteps := 10000000) (maxDischargeDepth := 300) only [go_sem, Pg.cells, Ex.cells, St1.cells, isI, I64, Ex.cellsL_length, Ex.cellsL_get, St1.cellsL_length, St1.cellsL_get, List.cons_append, List.nil_append, hel])); (try ((with_reducible refine And.intro ?_ ?_) <;> (repeat' with_reducible apply And.intro) <;> (try first | omega | (simp only [InK]; omega) | (intro k e; cases e; rfl) | (intro hguard; exact ⟨hguard, by simp only [InK]; omega⟩) | kernel_rfl))))
            refine again (i + 1) (fun j => if j = 67 then some 8512 else some j) [] _ hlt (by omega) ?_
            simp (maxSteps := 10000000) (maxDischargeDepth := 300) only [go_sem, TmOK, DM, DMs, CM, CMs, forall_eq, exists_eq_left, Mq, HpOK, LowOK, Pg.cells, Ex.cells, St1.cells, isI, I64, Ex.cellsL_length, Ex.cellsL_get, St1.cellsL_length, St1.cellsL_get, List.cons_append, List.nil_append, hci, hsi2, stC_snoc, List.length_append]
            simp
            exact CMs.kf (kf_app (stC_kf _) (by simp [kf]))
          · have hp1 : ((0 : Int) < ((cutL N.testBit vs.length d b).length : Int) + ((cutL N.testBit vs.length d e).length : Int)) = False := eq_false (by omega)
            rw [if_neg hpos] at hcS
            iterate 6 ((try (refine drv_sound (n := 12) (rs := _) Try.func72 mo rfl _ _ _ ?_; simp (maxSteps := 10000000) (maxDischargeDepth := 300) only [go_sem, Pg.cells, Ex.cells, St1.cells, isI, I64, Ex.cellsL_length, Ex.cellsL_get, St1.cellsL_length, St1.cellsL_get, List.cons_append, List.nil_append, hp1])); (try ((with_reducible refine And.intro ?_ ?_) <;> (repeat' with_reducible apply And.intro) <;> (try first | omega | (simp only [InK]; omega) | (intro k e; cases e; rfl) | (intro hguard; exact ⟨hguard, by simp only [InK]; omega⟩) | kernel_rfl))))
            have hcut : cutS N.testBit vs.length (cutL N.testBit vs.length d) (.mk k t (.mk ik iv iks) (.mk vk vv vks) c b e) = none := by exact hcS
            have hadd : addS N.testBit vs.length (cutL N.testBit vs.length d) (setN N.testBit vs.length d) Si (.mk k t (.mk ik iv iks) (.mk vk vv vks) c b e) = (Si ||| (setN N.testBit vs.length d b ||| setN N.testBit vs.length d e)) := by simp only [addS, hcut, Option.isSome_none, Bool.false_eq_true, if_false]; simp [hk5, hk1, hk2]
            rw [hcut, Option.toList_none, List.append_nil] at hci
            rw [hadd] at hsi2
            refine again (i + 1) some [] _ hlt (by omega) ?_
            simp (maxSteps := 10000000) (maxDischargeDepth := 300) only [go_sem, TmOK, DM, DMs, CM, CMs, forall_eq, exists_eq_left, Mq, HpOK, LowOK, Pg.cells, Ex.cells, St1.cells, isI, I64, Ex.cellsL_length, Ex.cellsL_get, St1.cellsL_length, St1.cellsL_get, List.cons_append, List.nil_append, hci, hsi2]
            simp
            exact CMs.kf (stC_kf _)
      · have hn2 : ¬ i < l.length := by omega
        obtain rfl : i = l.length := by omega
        refine drv_sound (n := 12) (rs := _) Try.func72 mo rfl none _ _ ?_
        simp (maxSteps := 10000000) (maxDischargeDepth := 300) only [go_sem, Pg.cells, Ex.cells, St1.cells, isI, I64, Ex.cellsL_length, Ex.cellsL_get, St1.cellsL_length, St1.cellsL_get, hn2, List.take_length]
        iterate 2 ((try (refine drv_sound (n := 12) (rs := _) Try.func72 mo rfl _ _ _ ?_; simp (maxSteps := 10000000) (maxDischargeDepth := 300) only [go_sem, Pg.cells, Ex.cells, St1.cells, isI, I64, Ex.cellsL_length, Ex.cellsL_get, St1.cellsL_length, St1.cellsL_get, hn2, List.take_length])); (try ((with_reducible refine And.intro ?_ ?_) <;> (repeat' with_reducible apply And.intro) <;> (try first | omega | (simp only [InK]; omega) | (intro k e; cases e; rfl) | (intro hguard; exact ⟨hguard, by simp only [InK]; omega⟩) | kernel_rfl))))
        generalize hCi : cutL N.testBit vs.length (d + 1) l = Ci at *
        refine RetOb.ofQ (fun j => none) [67] (.tup [.c (.isl 11 (St1.cellsL Ci)), DI .i64 (setN N.testBit vs.length (d + 1) l)]) [] ?_ (by rw [← hR]; exact ⟨rfl, rfl⟩) (by simp)
        have g1 : (St1.cellsL Ci).flatten = stC Ci := by rw [St1.cellsL_eq]; rfl
        have g2 : ∀ x ∈ St1.cellsL Ci, x.length = 11 := fun x hx => by rw [St1.cellsL_eq] at hx; obtain ⟨e, _, rfl⟩ := List.mem_map.1 hx; exact St1.cells_len e
        have g3 : ∀ x ∈ St1.cellsL Ci, ∀ c ∈ x, kf c = true := fun x hx => by rw [St1.cellsL_eq] at hx; obtain ⟨e, _, rfl⟩ := List.mem_map.1 hx; exact st_kf e
        simp only [enumL, hOf, DM, DMs, CM, CMs, HpOK, LowOK, upd, St1.cellsL_length, g1]
        first | (simp; exact ⟨g2, g3⟩) | (simp [g2]; exact g3) | exact ⟨g2, g3⟩
    · simp (maxSteps := 10000000) (maxDischargeDepth := 300) only [go_sem, TmOK, DM, DMs, CM, CMs, forall_eq, exists_eq_left, Mq, HpOK, LowOK, Pg.cells, Ex.cells, St1.cells, isI, I64, Ex.cellsL_length, Ex.cellsL_get, St1.cellsL_length, St1.cellsL_get]
      simp [cutL, setN, stC]
end Go.Proofs.Ytclgjiffpijgmaa.CtD

namespace Go.Proofs.Ytclgjiffpijgmaa.CtD
open Go Go.CT CtF CtR

/-! Slices, plain: the least closed set. -/
def subB (a : Nat) (q : Nat → Bool) : Prop := ∀ i, a.testBit i = true → q i = true
theorem subB_or {a b : Nat} {q : Nat → Bool} : subB (a ||| b) q ↔ subB a q ∧ subB b q := by
  unfold subB
  constructor
  · intro h
    exact ⟨fun i hi => h i (by rw [Nat.testBit_or, hi, Bool.true_or]), fun i hi => h i (by rw [Nat.testBit_or, hi, Bool.or_true])⟩
  · rintro ⟨h1, h2⟩ i hi
    rw [Nat.testBit_or, Bool.or_eq_true] at hi
    exact hi.elim (h1 i) (h2 i)
theorem subB_zero (q : Nat → Bool) : subB 0 q := fun i h => by simp at h
def leB (q q' : Nat → Bool) : Prop := ∀ i, q i = true → q' i = true
/-- With more cells, a slice keeps more, and reads more. -/
theorem cut_mono (nv : Nat) {q q' : Nat → Bool} (h : leB q q') : ∀ (d : Nat) (l : List St1), (0 < (cutL q nv d l).length → 0 < (cutL q' nv d l).length) ∧ ∀ r, subB (setN q' nv d l) r → subB (setN q nv d l) r := by
  intro d
  induction d with
  | zero => intro l; exact ⟨fun h => h, fun r h => h⟩
  | succ d ih =>
    have hS : ∀ s, (cutS q nv (cutL q nv d) s).isSome = true → (cutS q' nv (cutL q' nv d) s).isSome = true := fun s => by
      obtain ⟨k, t, ix, v, c, b, e⟩ := s
      simp only [cutS]
      by_cases h5 : k = 5
      · simp [h5]
      · by_cases h1 : k = 1
        · simp only [h5, h1, if_false, if_true]
          cases hq : q t.toNat with
          | false => simp
          | true => simp [h _ hq]
        · by_cases h2 : k = 2
          · simp only [h5, h1, h2, if_false, if_true]
            cases hq : q (nv + t.toNat) with
            | false => simp
            | true => simp [h _ hq]
          · simp only [h5, h1, h2, if_false]
            intro hh
            have : 0 < (cutL q nv d b).length + (cutL q nv d e).length := by
              by_cases h0 : 0 < (cutL q nv d b).length + (cutL q nv d e).length
              · exact h0
              · rw [if_neg h0] at hh; simp at hh
            have h3 := (ih b).1
            have h4 := (ih e).1
            rw [if_pos (by omega)]; rfl
    have hA : ∀ s r a a', (subB a' r → subB a r) → subB (addS q' nv (cutL q' nv d) (setN q' nv d) a' s) r → subB (addS q nv (cutL q nv d) (setN q nv d) a s) r := fun s r a a' haa => by
      have hss := hS s
      obtain ⟨k, t, ix, v, c, b, e⟩ := s
      simp only [addS]
      have hb := (ih b).2 r
      have he := (ih e).2 r
      have h1 : subB (if k = 5 ∨ k = 1 ∨ k = 2 then a' else a' ||| (setN q' nv d b ||| setN q' nv d e)) r → subB (if k = 5 ∨ k = 1 ∨ k = 2 then a else a ||| (setN q nv d b ||| setN q nv d e)) r := by
        split
        · exact haa
        · intro hh
          rw [subB_or, subB_or] at hh ⊢
          exact ⟨haa hh.1, hb hh.2.1, he hh.2.2⟩
      intro hh
      cases hc : (cutS q nv (cutL q nv d) (.mk k t ix v c b e)).isSome with
      | true =>
        rw [hss hc] at hh
        simp only [if_true] at hh ⊢
        rw [subB_or] at hh ⊢
        exact ⟨h1 hh.1, hh.2⟩
      | false =>
        simp only [Bool.false_eq_true, if_false]
        apply h1
        split at hh
        · exact (subB_or.1 hh).1
        · exact hh
    intro l
    refine ⟨fun hl => ?_, fun r => ?_⟩
    · simp only [cutL] at hl ⊢
      obtain ⟨x, hx⟩ := List.exists_mem_of_length_pos hl
      obtain ⟨s, hs, he⟩ := List.mem_filterMap.1 hx
      have := hS s (by rw [he]; rfl)
      obtain ⟨y, hy⟩ := Option.isSome_iff_exists.1 this
      exact List.length_pos_of_mem (List.mem_filterMap.2 ⟨s, hs, hy⟩)
    · simp only [setN]
      have gen : ∀ (l : List St1) (a a' : Nat), (subB a' r → subB a r) → subB (l.foldl (addS q' nv (cutL q' nv d) (setN q' nv d)) a') r → subB (l.foldl (addS q nv (cutL q nv d) (setN q nv d)) a) r := fun l => by
        induction l with
        | nil => intro a a' h; exact h
        | cons s t iht => intro a a' h; exact iht _ _ (hA s r a a' h)
      exact gen l 0 0 (fun h => h)

structure Least (p : Pg) (ws : List Bool) (q : Nat → Bool) : Prop where
  want : ∀ i, ws.getD i false = true → q i = true
  closed : subB (setN q p.vars.length 5 p.body) q
  least : ∀ q' : Nat → Bool, (∀ i, ws.getD i false = true → q' i = true) → subB (setN q' p.vars.length 5 p.body) q' → leB q q'
theorem Least.eq {p : Pg} {ws : List Bool} {q q' : Nat → Bool} (h : Least p ws q) (h' : Least p ws q') : q = q' := funext fun i => by
  have h1 := h.least q' h'.want h'.closed i
  have h2 := h'.least q h.want h.closed i
  cases ha : q i <;> cases hb : q' i <;> simp_all

/-- The wanted cells as bits. -/
def accN (ws : List Bool) : Nat → Nat
  | 0 => 0
  | i + 1 => accN ws i ||| (if ws.getD i false then 1 else 0) * 2 ^ i
theorem accN_bit (ws : List Bool) : ∀ (i j : Nat), (accN ws i).testBit j = (decide (j < i) && ws.getD j false)
  | 0, j => by simp [accN]
  | i + 1, j => by
    rw [accN, Nat.testBit_or, accN_bit ws i j]
    have hb : ((if ws.getD i false then 1 else 0) * 2 ^ i).testBit j = (ws.getD i false && decide (i = j)) := by
      cases hw : ws.getD i false with
      | true => simp [Nat.testBit_two_pow]
      | false => simp
    rw [hb]
    by_cases h1 : j < i
    · have : ¬ i = j := by omega
      simp [h1, this, show j < i + 1 by omega]
    · by_cases h2 : i = j
      · subst h2; simp
      · simp [h1, h2, show ¬ j < i + 1 by omega]
theorem accN_lt (ws : List Bool) : ∀ i, i ≤ 14 → accN ws i < 16384
  | 0, _ => by simp [accN]
  | i + 1, h => by
    rw [accN]
    refine or_lt (accN_lt ws i (by omega)) ?_
    have := pow14 (show i < 14 by omega)
    split <;> omega
end Go.Proofs.Ytclgjiffpijgmaa.CtD
