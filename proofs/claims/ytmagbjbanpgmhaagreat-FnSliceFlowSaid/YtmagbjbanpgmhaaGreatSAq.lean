/- Contracts of functions of the program, one behind the other, as plain data: what each call returns and which blocks it leaves. -/
import Derived.Test.YtmagbjbanpgmhaaGreatSFacts
import Derived.Test.YtmagbjbanpgmhaaGreatSAj
import Derived.Test.YtmagbjbanpgmhaaGreatSAk
import Derived.Test.YtmagbjbanpgmhaaGreatSAm
import Derived.Test.YtmagbjbanpgmhaaGreatSAn
import Derived.Test.YtmagbjbanpgmhaaGreatSAl
import Derived.Test.YtmagbjbanpgmhaaGreatSAo
set_option linter.unusedVariables false
set_option linter.unusedSimpArgs false
set_option maxHeartbeats 16000000
set_option maxRecDepth 100000
namespace Go.Proofs.YtmagbjbanpgmhaaGreat.CtR
open Go Go.CT CtF

theorem cellI (p : Pg) (a : Int) (hl : p.vars.length ≤ mx) (ha : 0 ≤ a ∧ a ≤ 1000) : DC Tryz.prog 94 [.agg p.cells, DI .i64 a] [] (fun r h => r = DI .i64 (p.vars.length + a) ∧ h = []) := by
  have hmx := mx_eq
  obtain ⟨vs, ar, bd⟩ := p
  have hl : vs.length ≤ mx := hl
  refine dcZ Tryz.func94 ?_
  simp (maxSteps := 9999999) only [go_sem]
  iterate 2 ((try (refine drvZ Tryz.func94 ?_; simp (maxSteps := 9999999) only [go_sem])); (try ((with_reducible refine And.intro ?_ ?_) <;> (repeat' with_reducible apply And.intro) <;> try exact sd)))
  exact RetOb.plain (d := DI .i64 _) ⟨rfl, rfl⟩ rfl
theorem cellsI (p : Pg) (hl : p.vars.length ≤ mx) (hl2 : p.arrays.length ≤ mx) : DC Tryz.prog 49 [.agg p.cells] [] (fun r h => r = DI .i64 ((p.vars.length + p.arrays.length : Nat) : Int) ∧ h = []) := by
  have hmx := mx_eq
  obtain ⟨vs, ar, bd⟩ := p
  have hl : vs.length ≤ mx := hl
  have hl2 : ar.length ≤ mx := hl2
  refine dcZ Tryz.func49 ?_
  simp (maxSteps := 9999999) only [go_sem]
  iterate 2 ((try (refine drvZ Tryz.func49 ?_; simp (maxSteps := 9999999) only [go_sem])); (try ((with_reducible refine And.intro ?_ ?_) <;> (repeat' with_reducible apply And.intro) <;> try exact sd)))
  exact RetOb.plain (d := DI .i64 _) ⟨rfl, rfl⟩ rfl
theorem cellsS (p : Pg) (hl : p.vars.length ≤ mx) (hl2 : p.arrays.length ≤ mx) : DC Tryz.prog 46 [.agg p.cells] [] (fun r h => r = DI .i64 ((p.vars.length + p.arrays.length : Nat) : Int) ∧ h = []) := by
  have hmx := mx_eq
  obtain ⟨vs, ar, bd⟩ := p
  have hl : vs.length ≤ mx := hl
  have hl2 : ar.length ≤ mx := hl2
  refine dcZ Tryz.func46 ?_
  simp (maxSteps := 9999999) only [go_sem]
  iterate 2 ((try (refine drvZ Tryz.func46 ?_; simp (maxSteps := 9999999) only [go_sem])); (try ((with_reducible refine And.intro ?_ ?_) <;> (repeat' with_reducible apply And.intro) <;> try exact sd)))
  exact RetOb.plain (d := DI .i64 _) ⟨rfl, rfl⟩ rfl

/-- The cells that an expression reads, as bits. -/
def occB (nv : Nat) (k v : Int) : Nat := if k = 2 then 2 ^ v.toNat else if k = 3 then 2 ^ (nv + v.toNat) else 0
def occN (nv : Nat) : Nat → Ex → Nat
  | 0, _ => 0
  | d + 1, .mk k v ks => (ks.map (occN nv d)).foldl (fun a b => a ||| b) (occB nv k v)
theorem or_lt {a b : Nat} (ha : a < 16384) (hb : b < 16384) : a ||| b < 16384 := Nat.or_lt_two_pow (n := 14) ha hb
theorem foldl_or_lt : ∀ (l : List Nat) (a : Nat), a < 16384 → (∀ x ∈ l, x < 16384) → l.foldl (fun a b => a ||| b) a < 16384
  | [], a, h, _ => h
  | x :: r, a, h, h2 => foldl_or_lt r _ (or_lt h (h2 x (by simp))) fun y hy => h2 y (by simp [hy])
theorem pow14 {n : Nat} (h : n < 14) : 2 ^ n < 16384 := Nat.lt_of_lt_of_le (Nat.pow_lt_pow_right (by decide) h) (by decide)
theorem pow14i {n : Nat} (h : 2 ^ n < 16384) : ((2 : Int) ^ n) < 16384 := by
  have e : ((2 ^ n : Nat) : Int) = (2 : Int) ^ n := Int.natCast_pow 2 n
  omega
theorem occN_lt {p : Pg} (hn : p.vars.length + p.arrays.length ≤ 14) : ∀ (d : Nat) (e : Ex), shape p d e = true → occN p.vars.length d e < 16384
  | 0, _, _ => by simp [occN]
  | d + 1, .mk k v ks, h => by
    obtain ⟨g1, g2, g3⟩ := shape_succ h
    obtain ⟨hl3, hla, hv0, hv1⟩ := fits_len g1
    refine foldl_or_lt _ _ ?_ fun x hx => ?_
    · unfold occB
      split
      · rename_i hk; subst hk; simp only [limit] at hv1; exact pow14 (by simp at hv1; omega)
      · split
        · rename_i hk; subst hk; simp only [limit] at hv1; exact pow14 (by simp at hv1; omega)
        · decide
    · obtain ⟨y, hy, rfl⟩ := List.mem_map.1 hx
      exact occN_lt hn d y (g2 y hy)
theorem or_succ (f : Ex → Nat) (a : Nat) (ks : List Ex) (i : Nat) (x : Ex) (h : ks[i]? = some x) : ((ks.take (i + 1)).map f).foldl (fun a b => a ||| b) a = ((ks.take i).map f).foldl (fun a b => a ||| b) a ||| f x := by
  rw [List.take_add_one, h]
  simp

theorem occurringI (p : Pg) (hn : p.vars.length + p.arrays.length ≤ 14) : ∀ (d : Nat) (e : Ex), shape p d e = true → DC Tryz.prog 95 [.agg p.cells, .agg e.cells] [] (fun r h => r = DI .i64 (occN p.vars.length d e) ∧ h = []) := by
  have hmx := mx_eq
  intro d
  induction d with
  | zero => intro e h; simp [shape] at h
  | succ d ih =>
    intro e hsh
    obtain ⟨k, v, ks⟩ := e
    obtain ⟨g1, g2, g3⟩ := shape_succ hsh
    obtain ⟨hl3, hla, hv0, hv1⟩ := fits_len g1
    have hle := fun e h => occN_lt hn d e h
    have hacc0 := fun i => foldl_or_lt ((ks.take i).map (occN p.vars.length d)) (occB p.vars.length k v)
    have hmem : ∀ i, ∀ x ∈ (ks.take i).map (occN p.vars.length d), x < 16384 := fun i x hx => by
      obtain ⟨y, hy, rfl⟩ := List.mem_map.1 hx
      exact hle y (g2 y (List.mem_of_mem_take hy))
    have hcell := cellI p v (by omega) 
    have hlim : k = 2 → v < p.vars.length := fun hk => by subst hk; simpa [limit] using hv1
    have hlim3 : k = 3 → v < p.arrays.length := fun hk => by subst hk; simpa [limit] using hv1
    obtain ⟨vs, ar, bd⟩ := p
    have hn : vs.length + ar.length ≤ 14 := hn
    simp only at hlim hlim3 hacc0 hmem hcell
    have hob : occB vs.length k v < 16384 := by
      unfold occB
      split
      · rename_i hk; have := hlim hk; exact pow14 (by omega)
      · split
        · rename_i hk; have := hlim3 hk; exact pow14 (by omega)
        · decide
    have hacc := fun i => hacc0 i hob (hmem i)
    generalize hR : (fun (r : D) (h : List (Option (List C))) => r = DI .i64 (occN vs.length (d + 1) (.mk k v ks)) ∧ h = []) = R
    have key : k = 2 ∨ k = 3 ∨ (k ≠ 2 ∧ k ≠ 3) := by omega
    rcases key with hk | hk | ⟨hk2, hk3⟩
    · have hv2 := hlim hk
      have hB : ((occB vs.length k v : Nat) : Int) = 1 * 2 ^ v.toNat := by unfold occB; rw [if_pos hk, Int.natCast_pow, Int.one_mul]; rfl
      have hp := pow14 (show v.toNat < 14 by omega)
      have hpi : ((2 : Int) ^ v.toNat) < 16384 := pow14i hp
      have hpp : (0 : Int) < 2 ^ v.toNat := Int.pow_pos (by decide)
      have e2 : (k == 2) = true := by simp [hk]
      have f2 : (k = 2) = True := by simp [hk]
      have hbit : ((IntKind.i64).bits : Int) = 64 := rfl
      refine dcZ Tryz.func95 ?_
      simp (maxSteps := 9999999) only [go_sem, e2, f2]
      iterate 4 ((try (refine drvZ Tryz.func95 ?_; simp (maxSteps := 9999999) only [go_sem, e2, f2, hbit])); (try ((with_reducible refine And.intro ?_ ?_) <;> (repeat' with_reducible apply And.intro) <;> try exact sd)))
      refine Go.loopQ (fun i : Nat => [(2, .c (.ptr 0 0)), (5, DI .i64 (((ks.take i).map (occN vs.length d)).foldl (fun a b => a ||| b) (occB vs.length k v) : Nat)), (23, .c (.isl 3 (Ex.cellsL ks))), (24, DI .i64 ks.length), (25, DI .i64 i)]) (fun i => [(0, some (Pg.cells ⟨vs, ar, bd⟩))])
        4096 (fun i => i ≤ ks.length) (fun i => ks.length - i) ?_ 0 some [] _ (Nat.zero_le _) ?_
      · intro i hi again
        rcases Nat.lt_or_ge i ks.length with hlt | hge
        · obtain ⟨⟨k', v', ks'⟩, hx⟩ : ∃ x, ks[i]? = some x := ⟨ks[i], by simp [hlt]⟩
          have hsc := or_succ (occN vs.length d) (occB vs.length k v) ks i _ hx
          have ha := hacc i
          have hb := hle (.mk k' v' ks') (g2 _ (List.mem_of_getElem? hx))
          have hc := hacc (i + 1)
          rw [hsc] at hc
          simp only at hb
          generalize ((ks.take i).map (occN vs.length d)).foldl (fun a b => a ||| b) (occB vs.length k v) = acc at *
          refine drvL Tryz.func95 ?_
          simp (maxSteps := 9999999) only [go_sem, hx, hlt]
          iterate 2 ((try (refine drvZ Tryz.func95 ?_; simp (maxSteps := 9999999) only [go_sem, hx, hlt])); (try ((with_reducible refine And.intro ?_ ?_) <;> (repeat' with_reducible apply And.intro) <;> try exact sd)))
          refine XK.plain (ih (.mk k' v' ks') (g2 _ (List.mem_of_getElem? hx))) ok95 ?_ (hbT ())
          iterate 3 ((try (refine drvZ Tryz.func95 ?_; simp (maxSteps := 9999999) only [go_sem, hx, hlt])); (try ((with_reducible refine And.intro ?_ ?_) <;> (repeat' with_reducible apply And.intro) <;> try exact sd)))
          refine again (i + 1) some [] _ hlt (by omega) ?_
          simp (maxSteps := 9999999) only [go_sem, TmOK, DM, DMs, CM, CMs, forall_eq, exists_eq_left, Mq, HpOK, LowOK, hsc]
          simp
          rw [← List.map_take, hsc]
        · have hn : ¬ i < ks.length := by omega
          obtain rfl : i = ks.length := by omega
          refine drvL Tryz.func95 ?_
          simp (maxSteps := 9999999) only [go_sem, hn, List.take_length]
          iterate 2 ((try (refine drvZ Tryz.func95 ?_; simp (maxSteps := 9999999) only [go_sem, hn, List.take_length])); (try ((with_reducible refine And.intro ?_ ?_) <;> (repeat' with_reducible apply And.intro) <;> try exact sd)))
          exact RetOb.plain (d := DI .i64 _) (by rw [← hR]; exact ⟨rfl, rfl⟩) rfl
      · simp (maxSteps := 9999999) only [go_sem, TmOK, DM, DMs, CM, CMs, forall_eq, exists_eq_left, Mq, HpOK, LowOK, List.take_zero, List.map_nil, List.foldl_nil]
        simp [hB]
    · have hv2 := hlim3 hk
      have hB : ((occB vs.length k v : Nat) : Int) = 1 * 2 ^ ((vs.length : Int) + v).toNat := by
        have : ((vs.length : Int) + v).toNat = vs.length + v.toNat := by omega
        rw [this]; unfold occB; rw [if_neg (by omega), if_pos hk, Int.natCast_pow, Int.one_mul]; rfl
      have hp := pow14 (show ((vs.length : Int) + v).toNat < 14 by omega)
      have hpi : ((2 : Int) ^ ((vs.length : Int) + v).toNat) < 16384 := pow14i hp
      have hpp : (0 : Int) < 2 ^ ((vs.length : Int) + v).toNat := Int.pow_pos (by decide)
      have e2 : (k == 2) = false := by simp [hk]
      have f2 : (k = 2) = False := by simp [hk]
      have e3 : (k == 3) = true := by simp [hk]
      have f3 : (k = 3) = True := by simp [hk]
      have hbit : ((IntKind.i64).bits : Int) = 64 := rfl
      refine dcZ Tryz.func95 ?_
      simp (maxSteps := 9999999) only [go_sem, e2, f2, e3, f3]
      iterate 4 ((try (refine drvZ Tryz.func95 ?_; simp (maxSteps := 9999999) only [go_sem, e2, f2, e3, f3, hbit])); (try ((with_reducible refine And.intro ?_ ?_) <;> (repeat' with_reducible apply And.intro) <;> try exact sd)))
      refine XK.plain (hcell (by omega)) ok94 ?_ (hbT ())
      iterate 4 ((try (refine drvZ Tryz.func95 ?_; simp (maxSteps := 9999999) only [go_sem, e2, f2, e3, f3, hbit])); (try ((with_reducible refine And.intro ?_ ?_) <;> (repeat' with_reducible apply And.intro) <;> try exact sd)))
      refine Go.loopQ (fun i : Nat => [(2, .c (.ptr 0 0)), (5, DI .i64 (((ks.take i).map (occN vs.length d)).foldl (fun a b => a ||| b) (occB vs.length k v) : Nat)), (23, .c (.isl 3 (Ex.cellsL ks))), (24, DI .i64 ks.length), (25, DI .i64 i)]) (fun i => [(0, some (Pg.cells ⟨vs, ar, bd⟩))])
        4096 (fun i => i ≤ ks.length) (fun i => ks.length - i) ?_ 0 some [] _ (Nat.zero_le _) ?_
      · intro i hi again
        rcases Nat.lt_or_ge i ks.length with hlt | hge
        · obtain ⟨⟨k', v', ks'⟩, hx⟩ : ∃ x, ks[i]? = some x := ⟨ks[i], by simp [hlt]⟩
          have hsc := or_succ (occN vs.length d) (occB vs.length k v) ks i _ hx
          have ha := hacc i
          have hb := hle (.mk k' v' ks') (g2 _ (List.mem_of_getElem? hx))
          have hc := hacc (i + 1)
          rw [hsc] at hc
          simp only at hb
          generalize ((ks.take i).map (occN vs.length d)).foldl (fun a b => a ||| b) (occB vs.length k v) = acc at *
          refine drvL Tryz.func95 ?_
          simp (maxSteps := 9999999) only [go_sem, hx, hlt]
          iterate 2 ((try (refine drvZ Tryz.func95 ?_; simp (maxSteps := 9999999) only [go_sem, hx, hlt])); (try ((with_reducible refine And.intro ?_ ?_) <;> (repeat' with_reducible apply And.intro) <;> try exact sd)))
          refine XK.plain (ih (.mk k' v' ks') (g2 _ (List.mem_of_getElem? hx))) ok95 ?_ (hbT ())
          iterate 3 ((try (refine drvZ Tryz.func95 ?_; simp (maxSteps := 9999999) only [go_sem, hx, hlt])); (try ((with_reducible refine And.intro ?_ ?_) <;> (repeat' with_reducible apply And.intro) <;> try exact sd)))
          refine again (i + 1) some [] _ hlt (by omega) ?_
          simp (maxSteps := 9999999) only [go_sem, TmOK, DM, DMs, CM, CMs, forall_eq, exists_eq_left, Mq, HpOK, LowOK, hsc]
          simp
          rw [← List.map_take, hsc]
        · have hn : ¬ i < ks.length := by omega
          obtain rfl : i = ks.length := by omega
          refine drvL Tryz.func95 ?_
          simp (maxSteps := 9999999) only [go_sem, hn, List.take_length]
          iterate 2 ((try (refine drvZ Tryz.func95 ?_; simp (maxSteps := 9999999) only [go_sem, hn, List.take_length])); (try ((with_reducible refine And.intro ?_ ?_) <;> (repeat' with_reducible apply And.intro) <;> try exact sd)))
          exact RetOb.plain (d := DI .i64 _) (by rw [← hR]; exact ⟨rfl, rfl⟩) rfl
      · simp (maxSteps := 9999999) only [go_sem, TmOK, DM, DMs, CM, CMs, forall_eq, exists_eq_left, Mq, HpOK, LowOK, List.take_zero, List.map_nil, List.foldl_nil]
        simp [hB]
    · have hB : occB vs.length k v = 0 := by simp [occB, hk2, hk3]
      have e2 : (k == 2) = false := by simp [hk2]
      have e3 : (k == 3) = false := by simp [hk3]
      refine dcZ Tryz.func95 ?_
      simp (maxSteps := 9999999) only [go_sem, hk2, hk3, e2, e3]
      iterate 4 ((try (refine drvZ Tryz.func95 ?_; simp (maxSteps := 9999999) only [go_sem, e2, e3, hk2, hk3])); (try ((with_reducible refine And.intro ?_ ?_) <;> (repeat' with_reducible apply And.intro) <;> try exact sd)))
      refine Go.loopQ (fun i : Nat => [(2, .c (.ptr 0 0)), (5, DI .i64 (((ks.take i).map (occN vs.length d)).foldl (fun a b => a ||| b) (occB vs.length k v) : Nat)), (23, .c (.isl 3 (Ex.cellsL ks))), (24, DI .i64 ks.length), (25, DI .i64 i)]) (fun i => [(0, some (Pg.cells ⟨vs, ar, bd⟩))])
        4096 (fun i => i ≤ ks.length) (fun i => ks.length - i) ?_ 0 some [] _ (Nat.zero_le _) ?_
      · intro i hi again
        rcases Nat.lt_or_ge i ks.length with hlt | hge
        · obtain ⟨⟨k', v', ks'⟩, hx⟩ : ∃ x, ks[i]? = some x := ⟨ks[i], by simp [hlt]⟩
          have hsc := or_succ (occN vs.length d) (occB vs.length k v) ks i _ hx
          have ha := hacc i
          have hb := hle (.mk k' v' ks') (g2 _ (List.mem_of_getElem? hx))
          have hc := hacc (i + 1)
          rw [hsc] at hc
          simp only at hb
          generalize ((ks.take i).map (occN vs.length d)).foldl (fun a b => a ||| b) (occB vs.length k v) = acc at *
          refine drvL Tryz.func95 ?_
          simp (maxSteps := 9999999) only [go_sem, hx, hlt]
          iterate 2 ((try (refine drvZ Tryz.func95 ?_; simp (maxSteps := 9999999) only [go_sem, hx, hlt])); (try ((with_reducible refine And.intro ?_ ?_) <;> (repeat' with_reducible apply And.intro) <;> try exact sd)))
          refine XK.plain (ih (.mk k' v' ks') (g2 _ (List.mem_of_getElem? hx))) ok95 ?_ (hbT ())
          iterate 3 ((try (refine drvZ Tryz.func95 ?_; simp (maxSteps := 9999999) only [go_sem, hx, hlt])); (try ((with_reducible refine And.intro ?_ ?_) <;> (repeat' with_reducible apply And.intro) <;> try exact sd)))
          refine again (i + 1) some [] _ hlt (by omega) ?_
          simp (maxSteps := 9999999) only [go_sem, TmOK, DM, DMs, CM, CMs, forall_eq, exists_eq_left, Mq, HpOK, LowOK, hsc]
          simp
          rw [← List.map_take, hsc]
        · have hn : ¬ i < ks.length := by omega
          obtain rfl : i = ks.length := by omega
          refine drvL Tryz.func95 ?_
          simp (maxSteps := 9999999) only [go_sem, hn, List.take_length]
          iterate 2 ((try (refine drvZ Tryz.func95 ?_; simp (maxSteps := 9999999) only [go_sem, hn, List.take_length])); (try ((with_reducible refine And.intro ?_ ?_) <;> (repeat' with_reducible apply And.intro) <;> try exact sd)))
          exact RetOb.plain (d := DI .i64 _) (by rw [← hR]; exact ⟨rfl, rfl⟩) rfl
      · simp (maxSteps := 9999999) only [go_sem, TmOK, DM, DMs, CM, CMs, forall_eq, exists_eq_left, Mq, HpOK, LowOK, List.take_zero, List.map_nil, List.foldl_nil]
        simp [hB]
end Go.Proofs.YtmagbjbanpgmhaaGreat.CtR

namespace Go.Proofs.YtmagbjbanpgmhaaGreat.CtD
open Go Go.CT CtF CtR

theorem ownExpr (p : Pg) : ∀ (d : Nat) (e : Ex), CtR.shape p d e = true → DC Tryz.prog 96 [.agg e.cells] [] (fun r h => r = .agg e.cells ∧ h = []) := by
  have hmx := mx_eq
  intro d
  induction d with
  | zero => intro e h; simp [CtR.shape] at h
  | succ d ih =>
    intro e hsh
    obtain ⟨k, v, ks⟩ := e
    obtain ⟨g1, g2, g3⟩ := shape_succ hsh
    obtain ⟨hl3, hla, hv0, hv1⟩ := fits_len g1
    refine dcZ Tryz.func96 ?_
    simp (maxSteps := 9999999) only [go_sem]
    iterate 2 ((try (refine drvZ Tryz.func96 ?_; simp (maxSteps := 9999999) only [go_sem])); (try ((with_reducible refine And.intro ?_ ?_) <;> (repeat' with_reducible apply And.intro) <;> try exact sd)))
    refine Go.loopQ (fun i : Nat => [(1, .c (.ptr 0 0)), (2, .c (.ptr 64 0)), (3, .c (.ptr 66 0)), (12, .c (.isl 3 (Ex.cellsL ks))), (13, DI .i64 ks.length), (14, DI .i64 i)])
      (fun i => [(0, some (Ex.cells (.mk k v ks))), (64, some [I64 0, I64 0, .v (.slice none 0 0)]), (66, some [I64 k, I64 v, .msl 67 3 0 i]), (67, some (exC (ks.take i)))])
      4096 (fun i => i ≤ ks.length) (fun i => ks.length - i) ?_ 0 (fun j => if j = 66 then some 448 else if j = 67 then none else some j) [] _ (Nat.zero_le _) ?_
    · intro i hi again
      rcases Nat.lt_or_ge i ks.length with hlt | hge
      · obtain ⟨⟨k', v', ks'⟩, hx⟩ : ∃ x, ks[i]? = some x := ⟨ks[i], by simp [hlt]⟩
        have hsx : ks.take (i + 1) = ks.take i ++ [.mk k' v' ks'] := by rw [List.take_add_one, hx]; rfl
        have hel : (exC (ks.take i)).length = i * 3 := by rw [exC_len, List.length_take]; congr 1; omega
        refine drvL Tryz.func96 ?_
        simp (maxSteps := 9999999) only [go_sem, hx, hlt]
        iterate 2 ((try (refine drvZ Tryz.func96 ?_; simp (maxSteps := 9999999) only [go_sem, hx, hlt])); (try ((with_reducible refine And.intro ?_ ?_) <;> (repeat' with_reducible apply And.intro) <;> try exact sd)))
        refine XK.plain (ih _ (g2 _ (List.mem_of_getElem? hx))) ok96 ?_ (hbT ()) (fun _ => by kernel_rfl)
        iterate 4 ((try (refine drvZ Tryz.func96 ?_; simp (maxSteps := 9999999) only [go_sem, hx, hlt, hel])); (try ((with_reducible refine And.intro ?_ ?_) <;> (repeat' with_reducible apply And.intro) <;> try exact sd)))
        refine again (i + 1) (fun j => if j = 67 then some 4736 else some j) [] _ hlt (by omega) ?_
        simp (maxSteps := 9999999) only [go_sem, TmOK, DM, DMs, CM, CMs, forall_eq, exists_eq_left, Mq, HpOK, LowOK, hsx, exC_snoc]
        simp
        exact CMs.kf (kf_app (exC_kf _) (by simp [kf]))
      · have hn : ¬ i < ks.length := by omega
        obtain rfl : i = ks.length := by omega
        refine drvL Tryz.func96 ?_
        simp (maxSteps := 9999999) only [go_sem, hn, List.take_length]
        iterate 2 ((try (refine drvZ Tryz.func96 ?_; simp (maxSteps := 9999999) only [go_sem, hn, List.take_length])); (try ((with_reducible refine And.intro ?_ ?_) <;> (repeat' with_reducible apply And.intro) <;> try exact sd)))
        refine RetOb.ofQ (fun j => none) [67] (.agg (Ex.cells (.mk k v ks))) [] ?_ ⟨rfl, rfl⟩ (by simp)
        have g1 : (Ex.cellsL ks).flatten = exC ks := by rw [Ex.cellsL_eq]; rfl
        have g2 : ∀ x ∈ Ex.cellsL ks, x.length = 3 := fun x hx => by rw [Ex.cellsL_eq] at hx; obtain ⟨e, _, rfl⟩ := List.mem_map.1 hx; exact Ex.cells_len e
        have g3 : ∀ x ∈ Ex.cellsL ks, ∀ c ∈ x, kf c = true := fun x hx => by rw [Ex.cellsL_eq] at hx; obtain ⟨e, _, rfl⟩ := List.mem_map.1 hx; exact ex_kf e
        simp only [enumL, hOf, DM, DMs, CM, CMs, HpOK, LowOK, upd, Ex.cells, Ex.cellsL_length, g1]
        first | (simp; exact ⟨g2, g3⟩) | (simp [g2]; exact g3) | exact ⟨g2, g3⟩
    · simp (maxSteps := 9999999) only [go_sem, TmOK, DM, DMs, CM, CMs, forall_eq, exists_eq_left, Mq, HpOK, LowOK]
      simp [exC]

theorem ownExpr0 : DC Tryz.prog 96 [.agg (Ex.cells (.mk 0 0 []))] [] (fun r h => r = .agg (Ex.cells (.mk 0 0 [])) ∧ h = []) := by
  refine dcZ Tryz.func96 ?_
  simp (maxSteps := 9999999) only [go_sem, Ex.cellsL, Int.natCast_zero]
  iterate 2 ((try (refine drvZ Tryz.func96 ?_; simp (maxSteps := 9999999) only [go_sem, Ex.cellsL, Int.natCast_zero])); (try ((with_reducible refine And.intro ?_ ?_) <;> (repeat' with_reducible apply And.intro) <;> try exact sd)))
  refine Go.loop ?_
  have hz : ((0 : Int) < 0) = False := eq_false (by omega)
  refine drvL Tryz.func96 ?_
  simp (maxSteps := 9999999) only [go_sem, Ex.cellsL, Int.natCast_zero, hz]
  iterate 2 ((try (refine drvZ Tryz.func96 ?_; simp (maxSteps := 9999999) only [go_sem, Ex.cellsL, Int.natCast_zero, hz])); (try ((with_reducible refine And.intro ?_ ?_) <;> (repeat' with_reducible apply And.intro) <;> try exact sd)))
  refine RetOb.ofQ (fun j => none) [] (.agg (Ex.cells (.mk 0 0 []))) [] ?_ ⟨rfl, rfl⟩ (by simp)
  simp [enumL, hOf, DM, DMs, CM, CMs, HpOK, LowOK, upd, Ex.cells, Ex.cellsL]
end Go.Proofs.YtmagbjbanpgmhaaGreat.CtD

namespace Go.Proofs.YtmagbjbanpgmhaaGreat.CtD
open Go Go.CT CtF CtR

theorem none0_eq {e : Ex} (h : none0 e = true) : e = .mk 0 0 [] := by
  obtain ⟨k, v, ks⟩ := e
  simp only [none0, Ex.kind, Ex.value, Ex.kids, Bool.and_eq_true, beq_iff_eq, decide_eq_true_eq] at h
  obtain ⟨⟨rfl, rfl⟩, h3⟩ := h
  have : ks = [] := List.isEmpty_iff.1 h3
  rw [this]
theorem exprs_of {p : Pg} {d : Nat} {k t : Int} {ix v : Ex} {c : Int} {b e : List St1} (h : stmtOK p (d + 1) (.mk k t ix v c b e) = true) :
    (CtR.shape p 5 ix = true ∨ ix = .mk 0 0 []) ∧ (CtR.shape p 5 v = true ∨ v = .mk 0 0 []) := by
  have h1 := (stmtOK_succ h).1
  have hk := head_kind h1
  unfold headOK parts at h1
  rcases hk with ⟨hk, _, _, hr⟩ | ⟨rfl, _, _, hr, _, hr2⟩ | ⟨rfl, hr⟩ | ⟨rfl, _⟩
  · refine ⟨.inr (none0_eq ?_), .inl (right_shape hr).1⟩
    have hk4 : k ≠ 4 := by omega
    have hk2 : (k == 2) = false := by simp; omega
    simp [hk4, hk2] at h1
    exact h1.1.2.2
  · exact ⟨.inl (right_shape hr).1, .inl (right_shape hr2).1⟩
  · refine ⟨.inr (none0_eq ?_), .inl (right_shape hr).1⟩
    simp at h1
    exact h1.1.2.2
  · simp at h1
    refine ⟨.inr (none0_eq ?_), .inr (none0_eq ?_)⟩ <;> grind
theorem val_none {p : Pg} {d : Nat} {t : Int} {ix v : Ex} {c : Int} {b e : List St1} (h : stmtOK p (d + 1) (.mk 4 t ix v c b e) = true) : ix = .mk 0 0 [] ∧ v = .mk 0 0 [] := by
  have h1 := (stmtOK_succ h).1
  unfold headOK parts at h1
  simp at h1
  exact ⟨none0_eq (by grind), none0_eq (by grind)⟩
end Go.Proofs.YtmagbjbanpgmhaaGreat.CtD

namespace Go.Proofs.YtmagbjbanpgmhaaGreat.CtD
open Go Go.CT CtF CtR

theorem ownE {p : Pg} {e : Ex} (h : CtR.shape p 5 e = true ∨ e = .mk 0 0 []) : DC Tryz.prog 96 [.agg e.cells] [] (fun r h => r = .agg e.cells ∧ h = []) := by
  rcases h with h | rfl
  · exact ownExpr p 5 e h
  · exact ownExpr0

theorem ownStmts (p : Pg) : ∀ (d : Nat) (l : List St1), (∀ s ∈ l, stmtOK p d s = true) → lsize d l ≤ 1000 → DC Tryz.prog 53 [.c (.isl 11 (St1.cellsL l))] [] (fun r h => r = .c (.isl 11 (St1.cellsL l)) ∧ h = []) := by
  have hmx := mx_eq
  intro d
  induction d with
  | zero =>
    intro l hok hsz
    have hnil : l = [] := by
      cases l with
      | nil => rfl
      | cons a r => have := hok a (by simp); simp [stmtOK] at this
    subst hnil
    refine dcZ Tryz.func53 ?_
    simp (maxSteps := 9999999) only [go_sem, St1.cellsL, Int.natCast_zero]
    ((try (refine drvZ Tryz.func53 ?_; simp (maxSteps := 9999999) only [go_sem, St1.cellsL, Int.natCast_zero])); (try ((with_reducible refine And.intro ?_ ?_) <;> (repeat' with_reducible apply And.intro) <;> try exact sd)))
    refine Go.loop ?_
    have hz : ((0 : Int) < 0) = False := eq_false (by omega)
    refine drvL Tryz.func53 ?_
    simp (maxSteps := 9999999) only [go_sem, St1.cellsL, Int.natCast_zero, hz]
    ((try (refine drvZ Tryz.func53 ?_; simp (maxSteps := 9999999) only [go_sem, St1.cellsL, Int.natCast_zero, hz])); (try ((with_reducible refine And.intro ?_ ?_) <;> (repeat' with_reducible apply And.intro) <;> try exact sd)))
    refine RetOb.ofQ (fun j => none) [] (.c (.isl 11 [])) [] ?_ ⟨rfl, rfl⟩ (by simp)
    simp [enumL, hOf, DM, CM, HpOK, LowOK, upd]
  | succ d ih =>
    intro l hok hsz
    have hsub := lsize_subs d l
    refine dcZ Tryz.func53 ?_
    simp (maxSteps := 9999999) only [go_sem]
    ((try (refine drvZ Tryz.func53 ?_; simp (maxSteps := 9999999) only [go_sem])); (try ((with_reducible refine And.intro ?_ ?_) <;> (repeat' with_reducible apply And.intro) <;> try exact sd)))
    refine Go.loopQ (fun i : Nat => [(3, .c (.msl 67 11 0 i)), (6, .c (.isl 11 (St1.cellsL l))), (7, DI .i64 l.length), (8, DI .i64 i)]) (fun i => [(67, some (stC (l.take i)))])
      4096 (fun i => i ≤ l.length) (fun i => l.length - i) ?_ 0 (fun j => none) [] _ (Nat.zero_le _) ?_
    · intro i hi again
      rcases Nat.lt_or_ge i l.length with hlt | hge
      · obtain ⟨⟨k, t, ⟨ik, iv, iks⟩, ⟨vk, vv, vks⟩, c, b, e⟩, hx⟩ : ∃ x, l[i]? = some x := ⟨l[i], by simp [hlt]⟩
        have hsx : l.take (i + 1) = l.take i ++ [.mk k t (.mk ik iv iks) (.mk vk vv vks) c b e] := by rw [List.take_add_one, hx]; rfl
        have hel : (stC (l.take i)).length = i * 11 := by rw [stC_len, List.length_take]; congr 1; omega
        have hsok := hok _ (List.mem_of_getElem? hx)
        have hex := exprs_of hsok
        have hbe := stmtOK_succ hsok
        have a1 := tsum_succ (subs d) l i _ hx
        have a2 := tsum_le (subs d) l (i + 1)
        simp only [subs, St1.body, St1.els] at a1 a2
        have ihb := ih b hbe.2.1 (by omega)
        have ihe := ih e hbe.2.2 (by omega)
        refine drvL Tryz.func53 ?_
        simp (maxSteps := 9999999) only [go_sem, hx, hlt]
        iterate 3 ((try (refine drvZ Tryz.func53 ?_; simp (maxSteps := 9999999) only [go_sem, hx, hlt])); (try ((with_reducible refine And.intro ?_ ?_) <;> (repeat' with_reducible apply And.intro) <;> try exact sd)))
        refine XK.plain (ownE hex.1) ok96 ?_ (hbT ()) (fun _ => by kernel_rfl)
        iterate 2 ((try (refine drvZ Tryz.func53 ?_; simp (maxSteps := 9999999) only [go_sem])); (try ((with_reducible refine And.intro ?_ ?_) <;> (repeat' with_reducible apply And.intro) <;> try exact sd)))
        refine XK.plain (ownE hex.2) ok96 ?_ (hbT ()) (fun _ => by kernel_rfl)
        iterate 2 ((try (refine drvZ Tryz.func53 ?_; simp (maxSteps := 9999999) only [go_sem])); (try ((with_reducible refine And.intro ?_ ?_) <;> (repeat' with_reducible apply And.intro) <;> try exact sd)))
        refine XK.plain ihb ok53 ?_ (hbT ()) (fun _ => by kernel_rfl)
        iterate 2 ((try (refine drvZ Tryz.func53 ?_; simp (maxSteps := 9999999) only [go_sem])); (try ((with_reducible refine And.intro ?_ ?_) <;> (repeat' with_reducible apply And.intro) <;> try exact sd)))
        refine XK.plain ihe ok53 ?_ (hbT ()) (fun _ => by kernel_rfl)
        iterate 4 ((try (refine drvZ Tryz.func53 ?_; simp (maxSteps := 9999999) only [go_sem, hel])); (try ((with_reducible refine And.intro ?_ ?_) <;> (repeat' with_reducible apply And.intro) <;> try exact sd)))
        refine again (i + 1) (fun j => if j = 67 then some 5760 else some j) [] _ hlt (by omega) ?_
        simp (maxSteps := 9999999) only [go_sem, TmOK, DM, DMs, CM, CMs, forall_eq, exists_eq_left, Mq, HpOK, LowOK, hsx, stC_snoc, List.cons_append, List.nil_append]
        simp
        exact CMs.kf (kf_app (stC_kf _) (by simp [kf]))
      · have hn : ¬ i < l.length := by omega
        obtain rfl : i = l.length := by omega
        refine drvL Tryz.func53 ?_
        simp (maxSteps := 9999999) only [go_sem, hn, List.take_length]
        iterate 2 ((try (refine drvZ Tryz.func53 ?_; simp (maxSteps := 9999999) only [go_sem, hn, List.take_length])); (try ((with_reducible refine And.intro ?_ ?_) <;> (repeat' with_reducible apply And.intro) <;> try exact sd)))
        refine RetOb.ofQ (fun j => none) [67] (.c (.isl 11 (St1.cellsL l))) [] ?_ ⟨rfl, rfl⟩ (by simp)
        have g1 : (St1.cellsL l).flatten = stC l := by rw [St1.cellsL_eq]; rfl
        have g2 : ∀ x ∈ St1.cellsL l, x.length = 11 := fun x hx => by rw [St1.cellsL_eq] at hx; obtain ⟨e, _, rfl⟩ := List.mem_map.1 hx; exact St1.cells_len e
        have g3 : ∀ x ∈ St1.cellsL l, ∀ c ∈ x, kf c = true := fun x hx => by rw [St1.cellsL_eq] at hx; obtain ⟨e, _, rfl⟩ := List.mem_map.1 hx; exact st_kf e
        simp only [enumL, hOf, DM, DMs, CM, CMs, HpOK, LowOK, upd, St1.cellsL_length, g1]
        first | (simp; exact ⟨g2, g3⟩) | (simp [g2]; exact g3) | exact ⟨g2, g3⟩
    · simp (maxSteps := 9999999) only [go_sem, TmOK, DM, DMs, CM, CMs, forall_eq, exists_eq_left, Mq, HpOK, LowOK]
      simp [stC]
end Go.Proofs.YtmagbjbanpgmhaaGreat.CtD
