/- Contracts of functions of the program, one behind the other, as plain data: what each call returns and which blocks it leaves. -/
import Derived.Test.YtmagbjbanpgmhaaFacts
import Derived.Test.YtmagbjbanpgmhaaAj
import Derived.Test.YtmagbjbanpgmhaaAk
import Derived.Test.YtmagbjbanpgmhaaAl
import Derived.Test.YtmagbjbanpgmhaaAq
import Derived.Test.YtmagbjbanpgmhaaAr
import Derived.Test.YtmagbjbanpgmhaaAs
import Derived.Test.YtmagbjbanpgmhaaAt
import Derived.Test.YtmagbjbanpgmhaaAv
import Derived.Test.YtmagbjbanpgmhaaAw
import Derived.Test.YtmagbjbanpgmhaaAx
import Derived.Test.YtmagbjbanpgmhaaAy
import Derived.Test.YtmagbjbanpgmhaaBa
import Derived.Test.YtmagbjbanpgmhaaBb
import Derived.Test.YtmagbjbanpgmhaaAm
import Derived.Test.YtmagbjbanpgmhaaAo
import Derived.Test.YtmagbjbanpgmhaaAn
import Derived.Test.YtmagbjbanpgmhaaTc
import Derived.Test.YtmagbjbanpgmhaaTd
import Derived.Test.YtmagbjbanpgmhaaTe
set_option linter.unusedVariables false
set_option linter.unusedSimpArgs false
set_option maxHeartbeats 16000000
set_option maxRecDepth 100000
namespace Go.Proofs.Ytmagbjbanpgmhaa.CtD
open Go Go.CT CtF CtR
theorem dependsOnS0 (p : Pg) (hp : SmP p) (hok : progOK p = false) : DC Try.prog 12 [.agg p.cells] [] (fun r h => r = .c (.isl 1 []) ∧ h = []) := by
  have hmx := mx_eq
  have hown := ownProgram p hp
  have hnv := hp.nv
  have hna := hp.na
  have hv := programValidS p (by omega) (by omega) (by have := hp.sz 5; omega)
  rw [hok] at hv
  obtain ⟨vs, ar, bd⟩ := p
  generalize hR : (fun (r : D) (h : List (Option (List C))) => r = .c (.isl 1 []) ∧ h = []) = R
  refine dcZ Try.func12 ?_
  simp (maxSteps := 9999999) only [go_sem]
  iterate 6 ((try (refine drvZ Try.func12 ?_; simp (maxSteps := 9999999) only [go_sem])); (try ((with_reducible refine And.intro ?_ ?_) <;> (repeat' with_reducible apply And.intro) <;> try exact sd)); (try first | refine XK.p hown ok34 ?_ | refine XK.gp hown ok34 ?_ | refine XK.p hv ok35 ?_ | refine XK.gp hv ok35 ?_))
  refine RetOb.frozen (R := R) (sz := 1) (xs := []) (by rw [← hR]; exact ⟨rfl, rfl⟩) ?_ rfl (by simp) (by simp)
  simp [upd]
end Go.Proofs.Ytmagbjbanpgmhaa.CtD

namespace Go.Proofs.Ytmagbjbanpgmhaa.CtD
open Go Go.CT CtF CtR
theorem dependsOnI0 (p : Pg) (hl : p.vars.length ≤ mx) (hl2 : p.arrays.length ≤ mx) (hok : progOK p = false) : DC Try.prog 10 [.agg p.cells] [] (fun r h => r = .c (.isl 1 []) ∧ h = []) := by
  have hmx := mx_eq
  have hv := programValidI p hl hl2
  rw [hok] at hv
  obtain ⟨vs, ar, bd⟩ := p
  generalize hR : (fun (r : D) (h : List (Option (List C))) => r = .c (.isl 1 []) ∧ h = []) = R
  refine dcZ Try.func10 ?_
  simp (maxSteps := 9999999) only [go_sem]
  iterate 4 ((try (refine drvZ Try.func10 ?_; simp (maxSteps := 9999999) only [go_sem])); (try ((with_reducible refine And.intro ?_ ?_) <;> (repeat' with_reducible apply And.intro) <;> try exact sd)); (try first | refine XK.p hv ok31 ?_ | refine XK.gp hv ok31 ?_))
  refine RetOb.ofQ (fun j => none) [] (.c (.isl 1 [])) [] ?_ (by rw [← hR]; exact ⟨rfl, rfl⟩) (by simp)
  simp [enumL, DM, CM, HpOK, LowOK]
end Go.Proofs.Ytmagbjbanpgmhaa.CtD

namespace Go.Proofs.Ytmagbjbanpgmhaa.CtR
open Go Go.CT CtF

/-! The analysis is linear: a union-preserving change of the sets passes through it. -/
theorem phi_or {φ : Nat → Nat} (h : ∀ a b, φ (a ||| b) = φ a ||| φ b) : ∀ (l : List Nat) (a : Nat), φ (l.foldl (fun a b => a ||| b) a) = (l.map φ).foldl (fun a b => a ||| b) (φ a)
  | [], a => rfl
  | b :: r, a => by simp only [List.foldl_cons, List.map_cons]; rw [phi_or h r, h]
theorem dat_map {φ : Nat → Nat} (h0 : φ 0 = 0) (s : List Nat) (i : Nat) : dat (s.map φ) i = φ (dat s i) := by
  unfold dat
  simp only [List.getD_eq_getElem?_getD, List.getElem?_map]
  cases s[i]? with
  | none => simp [h0]
  | some a => rfl
theorem unite_map {φ : Nat → Nat} (h : ∀ a b, φ (a ||| b) = φ a ||| φ b) : ∀ (a b : List Nat), unite (a.map φ) (b.map φ) = (unite a b).map φ
  | [], b => by simp [unite]
  | a :: r, [] => by simp [unite]
  | a :: r, b :: q => by
    have ih := unite_map h r q
    simp only [unite] at ih
    simp only [unite, List.map_cons, List.zipWith_cons_cons, ih, h]
theorem setE_map {φ : Nat → Nat} (h : ∀ a b, φ (a ||| b) = φ a ||| φ b) (h0 : φ 0 = 0) (nv : Nat) (s : List Nat) : ∀ (d : Nat) (e : Ex), (setE nv (s.map φ) d e).1 = φ (setE nv s d e).1
  | 0, _ => by simp [setE, h0]
  | d + 1, .mk k v ks => by
    have h1 : orL (ks.map fun e => (setE nv (s.map φ) d e).1) = φ (orL (ks.map fun e => (setE nv s d e).1)) := by
      unfold orL
      rw [phi_or h, h0, List.map_map]
      congr 1
      exact List.map_congr_left fun e _ => setE_map h h0 nv s d e
    simp only [setE]
    rw [h1, dat_map h0, dat_map h0]
    split
    · simp [h]
    · split
      · simp [h]
      · rfl
theorem fixD_stop {f : Dp → Dp} {φ : Nat → Nat} (h : ∀ a b, φ (a ||| b) = φ a ||| φ b)
    (hf : ∀ s s' : Dp, s.sets.map φ = s'.sets.map φ → (f s).sets.map φ = (f s').sets.map φ) : ∀ (n : Nat) (s : Dp), unite (s.sets.map φ) ((f s).sets.map φ) = s.sets.map φ → (fixD f n s).sets.map φ = s.sets.map φ
  | 0, s, _ => rfl
  | n + 1, s, hs => by
    unfold fixD
    split
    · rfl
    · have e : (unite s.sets (f s).sets).map φ = s.sets.map φ := by rw [← unite_map h]; exact hs
      rw [fixD_stop h hf n _ (by
        rw [hf ⟨unite s.sets (f s).sets, (f s).tr, (f s).re⟩ s e]
        show unite ((unite s.sets (f s).sets).map φ) _ = (unite s.sets (f s).sets).map φ
        rw [e]; exact hs)]
      exact e
theorem fixD_map {f g : Dp → Dp} {φ : Nat → Nat} (h : ∀ a b, φ (a ||| b) = φ a ||| φ b) (hfg : ∀ s s' : Dp, s'.sets = s.sets.map φ → (g s').sets = (f s).sets.map φ)
    : ∀ (n : Nat) (s s' : Dp), s'.sets = s.sets.map φ → (fixD g n s').sets = (fixD f n s).sets.map φ
  | 0, s, s', hs => hs
  | n + 1, s, s', hs => by
    have hf : ∀ s s' : Dp, s.sets.map φ = s'.sets.map φ → (f s).sets.map φ = (f s').sets.map φ := fun s s' e => by
      rw [← hfg s ⟨s.sets.map φ, 0, 0⟩ rfl, ← hfg s' ⟨s.sets.map φ, 0, 0⟩ e]
    have hg := hfg s s' hs
    by_cases h1 : unite s.sets (f s).sets = s.sets
    · have h2 : unite s'.sets (g s').sets = s'.sets := by rw [hs, hg, unite_map h, h1]
      have e1 : fixD f (n + 1) s = ⟨s.sets, (f s).tr, (f s).re⟩ := by show (if _ then _ else _) = _; rw [if_pos h1]
      have e2 : fixD g (n + 1) s' = ⟨s'.sets, (g s').tr, (g s').re⟩ := by show (if _ then _ else _) = _; rw [if_pos h2]
      rw [e1, e2]; exact hs
    · have e1 : fixD f (n + 1) s = fixD f n ⟨unite s.sets (f s).sets, (f s).tr, (f s).re⟩ := by show (if _ then _ else _) = _; rw [if_neg h1]
      by_cases h2 : unite s'.sets (g s').sets = s'.sets
      · have e2 : fixD g (n + 1) s' = ⟨s'.sets, (g s').tr, (g s').re⟩ := by show (if _ then _ else _) = _; rw [if_pos h2]
        rw [e1, e2]
        have e3 : (unite s.sets (f s).sets).map φ = s.sets.map φ := by rw [← unite_map h, ← hs, ← hg]; exact h2
        have := fixD_stop h hf n ⟨unite s.sets (f s).sets, (f s).tr, (f s).re⟩ (by
          rw [hf ⟨unite s.sets (f s).sets, (f s).tr, (f s).re⟩ s e3]
          show unite ((unite s.sets (f s).sets).map φ) _ = (unite s.sets (f s).sets).map φ
          rw [e3, ← hs, ← hg]; exact h2)
        rw [this]
        show s'.sets = (unite s.sets (f s).sets).map φ
        rw [e3]; exact hs
      · have e2 : fixD g (n + 1) s' = fixD g n ⟨unite s'.sets (g s').sets, (g s').tr, (g s').re⟩ := by show (if _ then _ else _) = _; rw [if_neg h2]
        rw [e1, e2]
        exact fixD_map h hfg n _ _ (by show unite s'.sets (g s').sets = (unite s.sets (f s).sets).map φ; rw [hs, hg, unite_map h])
theorem fold_map {φ : Nat → Nat} {f g : Dp → St1 → Dp} (hfg : ∀ (t : St1) (s s' : Dp), s'.sets = s.sets.map φ → (g s' t).sets = (f s t).sets.map φ) : ∀ (l : List St1) (s s' : Dp), s'.sets = s.sets.map φ → (l.foldl g s').sets = (l.foldl f s).sets.map φ
  | [], s, s', h => h
  | t :: r, s, s', h => fold_map hfg r _ _ (hfg t s s' h)
theorem dep_map {φ : Nat → Nat} (h : ∀ a b, φ (a ||| b) = φ a ||| φ b) (h0 : φ 0 = 0) (nv : Nat) : ∀ (d c : Nat) (t : St1) (s s' : Dp), s'.sets = s.sets.map φ → (depS nv d (φ c) s' t).sets = (depS nv d c s t).sets.map φ
  | 0, _, _, _, _, hs => hs
  | d + 1, c, .mk k t ix v cc b e, s, s', hs => by
    have ih := fun c => fold_map (f := depS nv d c) (g := depS nv d (φ c)) (fun t s s' hs => dep_map h h0 nv d c t s s' hs)
    have hv : (setE nv s'.sets 5 v).1 = φ (setE nv s.sets 5 v).1 := by rw [hs]; exact setE_map h h0 nv _ 5 v
    have hi : (setE nv s'.sets 5 ix).1 = φ (setE nv s.sets 5 ix).1 := by rw [hs]; exact setE_map h h0 nv _ 5 ix
    by_cases k4 : k = 4
    · subst k4
      rw [depS_4, depS_4]
      exact fixD_map h (fun s s' hs => ih c b s s' hs) FU s s' hs
    by_cases k1 : k = 1
    · subst k1
      rw [depS_1, depS_1]
      show s'.sets.set _ _ = (s.sets.set _ _).map φ
      rw [List.map_set, hs, ← hs, hv, h]
    by_cases k5 : k = 5
    · subst k5
      rw [depS_5, depS_5]
      show s'.sets.set _ _ = (s.sets.set _ _).map φ
      rw [List.map_set, hs, ← hs, hv, h]
    by_cases k2 : k = 2
    · subst k2
      rw [depS_2, depS_2]
      show s'.sets.set _ _ = (s.sets.set _ _).map φ
      rw [List.map_set, h, h, h, ← dat_map h0, ← hs, hv, hi]
    by_cases k3 : k = 3
    · subst k3
      rw [depS_3, depS_3]
      have hc : φ c ||| (setE nv s'.sets 5 v).1 = φ (c ||| (setE nv s.sets 5 v).1) := by rw [hv, h]
      have hy : (ifY nv d (φ c) s' v b).sets = (ifY nv d c s v b).sets.map φ := by
        unfold ifY; rw [hc]; exact ih _ b _ _ hs
      have hn : (ifN nv d (φ c) s' v b e).sets = (ifN nv d c s v b e).sets.map φ := by
        unfold ifN; rw [hc]; exact ih _ e _ _ hs
      show unite _ _ = (unite _ _).map φ
      rw [hy, hn, unite_map h]
    · have e1 : ∀ c s, depS nv (d + 1) c s (.mk k t ix v cc b e) = ⟨s.sets.set t.toNat ((setE nv s.sets 5 v).1 ||| c), s.tr ||| (setE nv s.sets 5 v).2, s.re⟩ := fun c s => by simp [depS, k4, k2, k3, k5]
      rw [e1, e1]
      show s'.sets.set _ _ = (s.sets.set _ _).map φ
      rw [List.map_set, hs, ← hs, hv, h]

/-- The union of the sets that a set names. -/
def phi (w : Nat) (X : List Nat) (a : Nat) : Nat := orL ((List.range w).map fun j => if a.testBit j then dat X j else 0)
theorem orL_any (l : List Nat) (n : Nat) : (orL l).testBit n = l.any fun x => x.testBit n := by
  have key : ∀ (l : List Nat) (a : Nat), (l.foldl (fun a b => a ||| b) a).testBit n = (a.testBit n || l.any fun x => x.testBit n) := by
    intro l
    induction l with
    | nil => intro a; simp
    | cons b r ih => intro a; simp only [List.foldl_cons, ih, Nat.testBit_or, List.any_cons, Bool.or_assoc]
  unfold orL; rw [key]; simp
theorem phi_bit (w : Nat) (X : List Nat) (a n : Nat) : (phi w X a).testBit n = (List.range w).any fun j => a.testBit j && (dat X j).testBit n := by
  unfold phi
  rw [orL_any, List.any_map]
  congr 1; funext j
  simp only [Function.comp]
  cases a.testBit j <;> simp
theorem phi_zero (w : Nat) (X : List Nat) : phi w X 0 = 0 := Nat.eq_of_testBit_eq fun n => by rw [phi_bit]; simp
theorem phi_add (w : Nat) (X : List Nat) (a b : Nat) : phi w X (a ||| b) = phi w X a ||| phi w X b := Nat.eq_of_testBit_eq fun n => by
  rw [Nat.testBit_or, phi_bit, phi_bit, phi_bit, Bool.eq_iff_iff]
  simp only [Bool.or_eq_true, List.any_eq_true, Bool.and_eq_true, Nat.testBit_or]
  constructor
  · rintro ⟨j, h1, h2 | h2, h3⟩
    · exact .inl ⟨j, h1, h2, h3⟩
    · exact .inr ⟨j, h1, h2, h3⟩
  · rintro (⟨j, h1, h2, h3⟩ | ⟨j, h1, h2, h3⟩)
    · exact ⟨j, h1, .inl h2, h3⟩
    · exact ⟨j, h1, .inr h2, h3⟩
theorem phi_one {w : Nat} (X : List Nat) {i : Nat} (hi : i < w) : phi w X (2 ^ i) = dat X i := Nat.eq_of_testBit_eq fun n => by
  rw [phi_bit, Bool.eq_iff_iff]
  simp only [List.any_eq_true, Bool.and_eq_true, List.mem_range, Nat.testBit_two_pow, decide_eq_true_eq]
  constructor
  · rintro ⟨j, h1, rfl, h3⟩; exact h3
  · intro h; exact ⟨i, hi, rfl, h⟩
theorem phi_start {w : Nat} {X : List Nat} (hX : X.length = w) : (startD w).sets.map (phi w X) = X := by
  apply List.ext_getElem?
  intro i
  simp only [startD, List.getElem?_map]
  by_cases hi : i < w
  · rw [List.getElem?_range hi]
    simp only [Option.map_some]
    rw [phi_one X hi]
    unfold dat
    rw [List.getD_eq_getElem?_getD, List.getElem?_eq_getElem (by omega)]; rfl
  · rw [List.getElem?_eq_none (by simpa using hi), List.getElem?_eq_none (by omega)]; rfl
/-- Dependencies compose. -/
theorem dep_seq {w nv : Nat} (x y : List St1) (X Y : Dp) (hX : x.foldl (depS nv 5 0) (startD w) = X) (hY : y.foldl (depS nv 5 0) (startD w) = Y) (hl : X.sets.length = w) (i n : Nat) :
    (dat ((x ++ y).foldl (depS nv 5 0) (startD w)).sets i).testBit n = (List.range w).any fun j => (dat Y.sets i).testBit j && (dat X.sets j).testBit n := by
  rw [List.foldl_append, hX]
  have h1 := fold_map (φ := phi w X.sets) (f := depS nv 5 0) (g := depS nv 5 0) (fun t s s' hs => by
    have := dep_map (phi_add w X.sets) (phi_zero w X.sets) nv 5 0 t s s' hs
    rw [phi_zero] at this; exact this) y (startD w) X (phi_start hl).symm
  rw [h1, hY, dat_map (phi_zero _ _), phi_bit]

/-! What is not written keeps its set. -/
theorem fixD_keep {f : Dp → Dp} {w : Nat} (i : Nat) (hf : ∀ s, s.sets.length = w → (f s).sets.length = w ∧ dat (f s).sets i = dat s.sets i) : ∀ (n : Nat) (s : Dp), s.sets.length = w → (fixD f n s).sets.length = w ∧ dat (fixD f n s).sets i = dat s.sets i
  | 0, s, h => ⟨h, rfl⟩
  | n + 1, s, h => by
    have hs := hf s h
    unfold fixD
    split
    · exact ⟨h, rfl⟩
    · have hul : (unite s.sets (f s).sets).length = s.sets.length := unite_len (by omega)
      have := fixD_keep i hf n ⟨unite s.sets (f s).sets, (f s).tr, (f s).re⟩ (by show (unite s.sets (f s).sets).length = w; omega)
      refine ⟨this.1, this.2.trans ?_⟩
      show dat (unite s.sets (f s).sets) i = _
      rw [dat_unite (by omega), hs.2, Nat.or_self]
/-- Cell i is written. -/
def wcS (nv i : Nat) : Nat → St1 → Bool
  | 0, _ => false
  | d + 1, .mk k t _ _ _ b e => (decide (k = 1 ∨ k = 5) && t.toNat == i) || (decide (k = 2) && nv + t.toNat == i) || b.any (wcS nv i d) || e.any (wcS nv i d)
theorem dep_keep {w nv : Nat} (i : Nat) (p : Pg) : ∀ (d c : Nat) (t : St1) (s : Dp), stmtOK p d t = true → wcS nv i d t = false → s.sets.length = w → (depS nv d c s t).sets.length = w ∧ dat (depS nv d c s t).sets i = dat s.sets i
  | 0, _, _, _, _, _, h => ⟨h, rfl⟩
  | d + 1, c, .mk k t ix v cc b e, s, hok, hq, h => by
    have hbe := stmtOK_succ hok
    have hk := head_kind hbe.1
    simp only [wcS, Bool.or_eq_false_iff] at hq
    obtain ⟨⟨⟨q1, q2⟩, q3⟩, q4⟩ := hq
    have ih : ∀ (c : Nat) (l : List St1) (s : Dp), (∀ x ∈ l, stmtOK p d x = true) → l.any (wcS nv i d) = false → s.sets.length = w → (l.foldl (depS nv d c) s).sets.length = w ∧ dat (l.foldl (depS nv d c) s).sets i = dat s.sets i := by
      intro c l
      induction l with
      | nil => intro s _ _ h; exact ⟨h, rfl⟩
      | cons a r ihl =>
        intro s ho hq h
        simp only [List.any_cons, Bool.or_eq_false_iff] at hq
        have h1 := dep_keep i p d c a s (ho a (by simp)) hq.1 h
        have h2 := ihl (depS nv d c s a) (fun x hx => ho x (by simp [hx])) hq.2 h1.1
        exact ⟨h2.1, h2.2.trans h1.2⟩
    have key : k = 4 ∨ k = 1 ∨ k = 5 ∨ k = 2 ∨ k = 3 := by omega
    rcases key with hk | hk | hk | hk | hk <;> subst hk
    · rw [depS_4]
      exact fixD_keep i (fun s hs => ih c b s hbe.2.1 q3 hs) FU s h
    · rw [depS_1]
      refine ⟨by simp [h], ?_⟩
      have : t.toNat ≠ i := by simpa using q1
      show dat (s.sets.set _ _) i = _
      rw [dat_set, if_neg (by rintro ⟨e, _⟩; exact this e)]
    · rw [depS_5]
      refine ⟨by simp [h], ?_⟩
      have : t.toNat ≠ i := by simpa using q1
      show dat (s.sets.set _ _) i = _
      rw [dat_set, if_neg (by rintro ⟨e, _⟩; exact this e)]
    · rw [depS_2]
      refine ⟨by simp [h], ?_⟩
      have : nv + t.toNat ≠ i := by simpa using q2
      show dat (s.sets.set _ _) i = _
      rw [dat_set, if_neg (by rintro ⟨e, _⟩; exact this e)]
    · rw [depS_3]
      have hy : (ifY nv d c s v b).sets.length = w ∧ dat (ifY nv d c s v b).sets i = dat s.sets i := by
        unfold ifY; exact ih _ b ⟨s.sets, s.tr ||| (setE nv s.sets 5 v).2 ||| (setE nv s.sets 5 v).1, s.re⟩ hbe.2.1 q3 h
      have hn : (ifN nv d c s v b e).sets.length = w ∧ dat (ifN nv d c s v b e).sets i = dat s.sets i := by
        unfold ifN; exact ih _ e ⟨s.sets, (ifY nv d c s v b).tr, (ifY nv d c s v b).re⟩ hbe.2.2 q4 h
      show (unite _ _).length = w ∧ dat (unite _ _) i = _
      rw [unite_len (by omega), dat_unite (by omega), hy.2, hn.2, Nat.or_self]
      exact ⟨hy.1, rfl⟩
end Go.Proofs.Ytmagbjbanpgmhaa.CtR

namespace Go.Proofs.Ytmagbjbanpgmhaa.CtR
open Go Go.CT CtF

/-! A checked program's dependencies keep to its labels. -/
/-- A cell's label has a bit. -/
def hiC (β : Nat) (vs ar : List Int) (i : Nat) : Bool := if i < vs.length then (nth vs (i : Nat)).toNat.testBit β else (nth ar ((i - vs.length : Nat) : Int)).toNat.testBit β
/-- A set has no cell whose label has the bit. -/
def LoN (β : Nat) (vs ar : List Int) (a : Nat) : Prop := ∀ k, hiC β vs ar k = true → a.testBit k = false
theorem LoN.or {β : Nat} {vs ar : List Int} {a b : Nat} (h : LoN β vs ar a) (h' : LoN β vs ar b) : LoN β vs ar (a ||| b) := fun k hk => by
  rw [Nat.testBit_or, h k hk, h' k hk]; rfl
theorem LoN.orL {β : Nat} {vs ar : List Int} {l : List Nat} (h : ∀ x ∈ l, LoN β vs ar x) : LoN β vs ar (CtR.orL l) := fun k hk => by
  unfold CtR.orL; rw [or_bit]; exact ⟨by simp, fun x hx => h x hx k hk⟩
theorem LoN.zero {β : Nat} {vs ar : List Int} : LoN β vs ar 0 := fun k _ => by simp
def Sec (β : Nat) (vs ar : List Int) (s : List Nat) : Prop := ∀ i, hiC β vs ar i = false → LoN β vs ar (dat s i)
theorem Sec.set {β : Nat} {vs ar : List Int} {s : List Nat} (h : Sec β vs ar s) {i x : Nat} (hx : hiC β vs ar i = false → LoN β vs ar x) : Sec β vs ar (s.set i x) := fun j hj => by
  rw [dat_set]
  by_cases e : i = j ∧ i < s.length
  · rw [if_pos e]; obtain ⟨rfl, _⟩ := e; exact hx hj
  · rw [if_neg e]; exact h j hj
theorem Sec.unite {β : Nat} {vs ar : List Int} {s t : List Nat} (h : Sec β vs ar s) (h' : Sec β vs ar t) (hl : t.length = s.length) : Sec β vs ar (CtR.unite s t) := fun i hi => by
  rw [dat_unite hl]; exact (h i hi).or (h' i hi)
end Go.Proofs.Ytmagbjbanpgmhaa.CtR

namespace Go.Proofs.Ytmagbjbanpgmhaa.CtR
set_option pp.maxSteps 300000
set_option pp.deepTerms true
open Go Go.CT CtF

theorem any_false {α : Type} {f g : α → Bool} : ∀ (l : List α), (∀ x ∈ l, f x = false → g x = false) → l.any f = false → l.any g = false
  | [], _, _ => rfl
  | a :: r, h, hf => by
    simp only [List.any_cons, Bool.or_eq_false_iff] at hf ⊢
    exact ⟨h a (by simp) hf.1, any_false r (fun x hx => h x (by simp [hx])) hf.2⟩
theorem wc_of_wv {nv i : Nat} (hi : i < nv) : ∀ (d : Nat) (s : St1), wvS i d s = false → wcS nv i d s = false
  | 0, _, _ => rfl
  | d + 1, .mk k t _ _ _ b e, h => by
    simp only [wvS, Bool.or_eq_false_iff] at h
    obtain ⟨⟨h1, h2⟩, h3⟩ := h
    simp only [wcS, Bool.or_eq_false_iff]
    refine ⟨⟨⟨h1, ?_⟩, any_false b (fun x _ => wc_of_wv hi d x) h2⟩, any_false e (fun x _ => wc_of_wv hi d x) h3⟩
    have : ¬ nv + t.toNat = i := by omega
    simp [this]
theorem wc_of_wa {p : Pg} {j : Nat} : ∀ (d : Nat) (s : St1), stmtOK p d s = true → waS j d s = false → wcS p.vars.length (p.vars.length + j) d s = false
  | 0, _, _, _ => rfl
  | d + 1, .mk k t ix v cc b e, hs, h => by
    have hbe := stmtOK_succ hs
    have hk := head_kind hbe.1
    simp only [waS, Bool.or_eq_false_iff] at h
    obtain ⟨⟨h1, h2⟩, h3⟩ := h
    simp only [wcS, Bool.or_eq_false_iff]
    refine ⟨⟨⟨?_, ?_⟩, any_false b (fun x hx => wc_of_wa d x (hbe.2.1 x hx)) h2⟩, any_false e (fun x hx => wc_of_wa d x (hbe.2.2 x hx)) h3⟩
    · by_cases hk1 : k = 1 ∨ k = 5
      · have ht : ¬ t.toNat = p.vars.length + j := by omega
        simp [ht]
      · simp [hk1]
    · by_cases hk2 : k = 2
      · have : ¬ t.toNat = j := by simpa [hk2] using h1
        simp [this]
      · simp [hk2]
/-- Unwritten cells keep their own set. -/
theorem dep_writes {p : Pg} {w : Nat} (hw : p.vars.length + p.arrays.length = w) (hw14 : w ≤ 14) (hok : progOK p = true) :
    ((wrP p).1 ++ (wrP p).2).length = w ∧ ∀ i, i < w → ((wrP p).1 ++ (wrP p).2).getD i false = false → dat (depP p).sets i = 2 ^ i := by
  have hwr : wrP p = eachF p.vars p.arrays wStep 5 0 (List.replicate p.vars.length false, List.replicate p.arrays.length false) p.body := by unfold wrP; rw [hok]; rfl
  have hbo := (body_of hok).1
  have hln := prog_len2 hok
  have h1 : (wrP p).1.length = p.vars.length := by
    rw [hwr, (each_wv p.vars p.arrays 0 5 0 _ p.body (by simp; omega)).1]; simp
  have h2 : (wrP p).2.length = p.arrays.length := by
    rcases Nat.eq_zero_or_pos p.arrays.length with h0 | h0
    · have hlen : ∀ d c x l, (eachF p.vars p.arrays wStep d c x l).2.length = x.2.length := by
        intro d
        induction d with
        | zero => intro c x l; rfl
        | succ d ih =>
          intro c x l
          simp only [eachF]
          induction l generalizing x with
          | nil => rfl
          | cons s r ihl =>
            simp only [List.foldl_cons]
            have hst : (wStep x s c).2.length = x.2.length := by unfold wStep; split <;> (try split) <;> simp
            rw [ihl, ih, ih, hst]
      rw [hwr, hlen]; simp
    · rw [hwr, (each_wa p.vars p.arrays 0 5 0 _ p.body (by simpa using h0)).1]; simp
  refine ⟨by rw [List.length_append, h1, h2, hw], fun i hi hf => ?_⟩
  have hst : dat (startD w).sets i = 2 ^ i := by
    unfold dat startD; rw [List.getD_eq_getElem?_getD]; simp [hi]
  have hsl : (startD w).sets.length = w := by simp [startD]
  have key : p.body.any (wcS p.vars.length i 5) = false := by
    rw [List.getD_eq_getElem?_getD] at hf
    by_cases hiv : i < p.vars.length
    · rw [List.getElem?_append_left (by omega), ← List.getD_eq_getElem?_getD, hwr, (each_wv p.vars p.arrays i 5 0 _ p.body (by simpa using hiv)).2] at hf
      simp only [Bool.or_eq_false_iff] at hf
      exact any_false p.body (fun x _ => wc_of_wv hiv 5 x) hf.2
    · rw [List.getElem?_append_right (by omega), h1, ← List.getD_eq_getElem?_getD, hwr, (each_wa p.vars p.arrays (i - p.vars.length) 5 0 _ p.body (by simp; omega)).2] at hf
      simp only [Bool.or_eq_false_iff] at hf
      have e : i = p.vars.length + (i - p.vars.length) := by omega
      rw [e]
      exact any_false p.body (fun x hx => wc_of_wa 5 x (hbo x hx)) hf.2
  have kl : ∀ (l : List St1) (s : Dp), (∀ x ∈ l, stmtOK p 5 x = true) → l.any (wcS p.vars.length i 5) = false → s.sets.length = w → (l.foldl (depS p.vars.length 5 0) s).sets.length = w ∧ dat (l.foldl (depS p.vars.length 5 0) s).sets i = dat s.sets i := by
    intro l
    induction l with
    | nil => intro s _ _ h; exact ⟨h, rfl⟩
    | cons a r ihl =>
      intro s ho hq h
      simp only [List.any_cons, Bool.or_eq_false_iff] at hq
      have a1 := dep_keep i p 5 0 a s (ho a (by simp)) hq.1 h
      have a2 := ihl (depS p.vars.length 5 0 s a) (fun x hx => ho x (by simp [hx])) hq.2 a1.1
      exact ⟨a2.1, a2.2.trans a1.2⟩
  have := (kl p.body (startD w) hbo key hsl).2
  rw [hst] at this
  unfold depP
  rw [hw]; exact this
end Go.Proofs.Ytmagbjbanpgmhaa.CtR

namespace Go.Proofs.Ytmagbjbanpgmhaa.CtD
set_option pp.maxSteps 300000
set_option pp.deepTerms true
open Go Go.CT CtF CtR

/-- A drawn program, perhaps invalid. -/
def smR (r : D) (h : List (Option (List C))) : Prop := ∃ p : Pg, r = .agg p.cells ∧ SmP p ∧ h = []
theorem drawProgramValid (bs : List Int) (hb : Fits .u8 bs) (hl : bs.length ≤ mx) : DC Try.prog 30 [bytesD bs] [] smR := by
  have hmx := mx_eq
  have hop := l17Open bs hl
  have hb' := fits_take hb 2000
  have hl' : (bs.take 2000).length ≤ 2000 := by rw [List.length_take]; omega
  generalize hR : smR = R
  generalize hbs : bs.take 2000 = b2 at *
  unfold bytesD
  unfold bytesD at hop
  refine dcZ Try.func30 ?_
  simp (maxSteps := 9999999) only [go_sem]
  ((try (refine drvZ Try.func30 ?_; simp (maxSteps := 9999999) only [go_sem])); (try ((with_reducible refine And.intro ?_ ?_) <;> (repeat' with_reducible apply And.intro) <;> try exact sd)))
  refine XK.callG [] hop ok41 (fun i' x h => by simp at h) (hbT ()) (fun d h' ⟨_, e⟩ => by subst e; simp) ?_
  rintro _ _ ⟨rfl, rfl⟩ _
  iterate 2 ((try (refine drvZ Try.func30 ?_; simp (maxSteps := 9999999) only [go_sem, renCs_rdr])); (try ((with_reducible refine And.intro ?_ ?_) <;> (repeat' with_reducible apply And.intro) <;> try exact sd)))
  have hpr := l2Program b2 0 hb' hl' (by omega)
  refine XK.callG [128] hpr ok42 (hhp_one (by simp [upd, renCs_rdr])) (hbT ()) (fun d h' ⟨_, _, _, _, _, _, e⟩ => by subst e; simp) ?_
  rintro _ _ ⟨p, rfl, hp, n1, hn1, hn2, rfl⟩ _
  have hmu := l2Mutate b2 n1 p hb' hl' (by omega) hp
  obtain ⟨vs, ar, bd⟩ := p
  ((try (refine drvZ Try.func30 ?_; simp (maxSteps := 9999999) only [go_sem, renCs_rdr])); (try ((with_reducible refine And.intro ?_ ?_) <;> (repeat' with_reducible apply And.intro) <;> try exact sd)))
  refine XK.callG [128] hmu ok51 (hhp_one (by simp [upd, renCs_rdr])) (hbT ()) (fun d h' ⟨_, _, _, _, _, _, e⟩ => by subst e; simp) ?_
  rintro _ _ ⟨p, rfl, hp2, n2, hn3, hn4, rfl⟩ _
  obtain ⟨vs, ar, bd⟩ := p
  iterate 2 ((try (refine drvZ Try.func30 ?_; simp (maxSteps := 9999999) only [go_sem, renCs_rdr])); (try ((with_reducible refine And.intro ?_ ?_) <;> (repeat' with_reducible apply And.intro) <;> try exact sd)))
  exact RetOb.plain (d := .agg (Pg.cells ⟨vs, ar, bd⟩)) (by rw [← hR]; exact ⟨⟨vs, ar, bd⟩, rfl, hp2, rfl⟩) (by simp [kD, Pg.cells, isI, kf])
theorem drawDependsOn (bs : List Int) (hb : Fits .u8 bs) (hl : bs.length ≤ mx) : DC Try.prog 9 [bytesD bs] [] smR := by
  have hmx := mx_eq
  have hdp := drawProgramValid bs hb hl
  generalize hR : smR = R
  rw [hR] at hdp
  have hRR := hR
  unfold bytesD
  unfold bytesD at hdp
  refine dcZ Try.func9 ?_
  simp (maxSteps := 9999999) only [go_sem]
  ((try (refine drvZ Try.func9 ?_; simp (maxSteps := 9999999) only [go_sem])); (try ((with_reducible refine And.intro ?_ ?_) <;> (repeat' with_reducible apply And.intro) <;> try exact sd)))
  subst hR
  refine XK.callG [] hdp ok30 (fun i' x h => by simp at h) (hbT ()) (fun d h' ⟨_, _, _, e⟩ => by subst e; simp) ?_
  rintro _ _ ⟨p, rfl, hp2, rfl⟩ _
  obtain ⟨vs, ar, bd⟩ := p
  generalize hR : smR = R
  iterate 2 ((try (refine drvZ Try.func9 ?_; simp (maxSteps := 9999999) only [go_sem])); (try ((with_reducible refine And.intro ?_ ?_) <;> (repeat' with_reducible apply And.intro) <;> try exact sd)))
  exact RetOb.plain (d := .agg (Pg.cells ⟨vs, ar, bd⟩)) (by rw [← hR]; exact ⟨⟨vs, ar, bd⟩, rfl, hp2, rfl⟩) (by simp [kD, Pg.cells, isI, kf])
end Go.Proofs.Ytmagbjbanpgmhaa.CtD
