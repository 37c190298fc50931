/- Contracts of functions of the program, one behind the other, as plain data: what each call returns and which blocks it leaves. -/
import Derived.Test.YtmagbjbanpgmhaaFacts
import Derived.Test.YtmagbjbanpgmhaaAi
import Derived.Test.YtmagbjbanpgmhaaAk
import Derived.Test.YtmagbjbanpgmhaaAl
import Derived.Test.YtmagbjbanpgmhaaAq
import Derived.Test.YtmagbjbanpgmhaaAr
import Derived.Test.YtmagbjbanpgmhaaAo
import Derived.Test.YtmagbjbanpgmhaaAm
import Derived.Test.YtmagbjbanpgmhaaAn
import Derived.Test.YtmagbjbanpgmhaaAj
set_option linter.unusedVariables false
set_option linter.unusedSimpArgs false
set_option maxHeartbeats 16000000
set_option maxRecDepth 100000
namespace Go.Proofs.Ytmagbjbanpgmhaa.CtD
open Go Go.CT CtF CtR

theorem fits_take {k : IntKind} {bs : List Int} (h : Fits k bs) (n : Nat) : Fits k (bs.take n) := fun x hx => h x (List.mem_of_mem_take hx)
theorem renCs_rdr (r : Nat → Nat) (bs : List Int) (n : Int) : renCs r (rdr bs n) = rdr bs n := renCs_kf r _ (rdr_kf bs n)
theorem prog_len {p : Pg} (h : progOK p = true) : 1 ≤ p.vars.length ∧ p.vars.length ≤ 12 ∧ p.arrays.length ≤ 2 := by
  simp only [progOK, headsOK, Bool.and_eq_true, decide_eq_true_eq] at h
  obtain ⟨⟨⟨⟨⟨_, h1⟩, h2⟩, h3⟩, _⟩, _⟩ := h
  omega

end Go.Proofs.Ytmagbjbanpgmhaa.CtD

namespace Go.Proofs.Ytmagbjbanpgmhaa.CtR
open Go Go.CT CtF

/-! Plain laws of runs. -/
theorem trSame_refl (t : List Ev) : trSame t t = true := (trSame_iff t t).2 rfl
end Go.Proofs.Ytmagbjbanpgmhaa.CtR

namespace Go.Proofs.Ytmagbjbanpgmhaa.CtR
open Go Go.CT CtF

theorem memOK_of {p : Pg} {m : Mm} (h : MemFits p m) : memOK p.vars p.arrays m = true := by
  simp only [memOK, vals01, arrOK, Bool.and_eq_true, decide_eq_true_eq, List.all_eq_true]
  refine ⟨⟨⟨by rw [h.nv], by rw [h.na]⟩, fun x hx => h.val x hx⟩, fun a ha => ⟨by have := (h.arr a ha).1; omega, fun x hx => (h.arr a ha).2 x hx⟩⟩
theorem runP_of {p : Pg} {m : Mm} (h1 : progOK p = true) (h2 : memOK p.vars p.arrays m = true) : runP p m = ((runL 5 m p.body).1, (runL 5 m p.body).2, true) := runP_true (by rw [h1, h2]; rfl)
theorem runP_out {p : Pg} {m : Mm} (h1 : progOK p = true) (h2 : memOK p.vars p.arrays m = true) : memOK p.vars p.arrays (runL 5 m p.body).1 = true :=
  memOK_of (runL_ok (memFits_of (by rw [h1, h2]; rfl)) (body_of h1).1).1
end Go.Proofs.Ytmagbjbanpgmhaa.CtR

namespace Go.Proofs.Ytmagbjbanpgmhaa.CtR
open Go Go.CT CtF

def lab3 (l : List Int) : Prop := ∀ x ∈ l, 0 ≤ x ∧ x ≤ 3
end Go.Proofs.Ytmagbjbanpgmhaa.CtR

namespace Go.Proofs.Ytmagbjbanpgmhaa.CtR
open Go Go.CT CtF

theorem RetOb.two {R : D → List (Option (List C)) → Prop} {a b : Int} {hp : Hp} (h : R (.tup [DI .i64 a, DI .i64 b]) []) : RetOb 0 R (.tup [DI .i64 a, DI .i64 b]) hp :=
  RetOb.ofQ (fun _ => none) [] (.tup [DI .i64 a, DI .i64 b]) [] (by simp [enumL, DM, DMs, CM, HpOK, LowOK]) h (by simp)
end Go.Proofs.Ytmagbjbanpgmhaa.CtR

namespace Go.Proofs.Ytmagbjbanpgmhaa.CtR
open Go Go.CT CtF

abbrev BC (b : Bool) : C := .v (.bool b)
def boolsC (bs : List Bool) : List C := bs.map BC
def boolsD (bs : List Bool) : C := .isl 1 (bs.map fun b => [BC b])
theorem boolsC_kf (bs : List Bool) : ∀ c ∈ boolsC bs, kf c = true := by
  intro c hc; obtain ⟨x, _, rfl⟩ := List.mem_map.1 hc; rfl
theorem boolsC_set (bs : List Bool) (i : Nat) (b : Bool) : (boolsC bs).set i (.v (.bool b)) = boolsC (bs.set i b) := by
  unfold boolsC; rw [List.map_set]
theorem boolsC_len (bs : List Bool) : (boolsC bs).length = bs.length := by simp [boolsC]
theorem boolsC_rep (n : Nat) (b : Bool) : (List.replicate n [C.v (.bool b)]).flatten = boolsC (List.replicate n b) := by
  induction n with
  | zero => rfl
  | succ n ih => rw [List.replicate_succ, List.flatten_cons, ih, List.replicate_succ]; rfl
theorem boolsC_ren (r : Nat → Nat) (bs : List Bool) : renCs r (boolsC bs) = boolsC bs := by
  induction bs with
  | nil => rfl
  | cons a r' ih => simp only [boolsC, List.map_cons, renCs, renC] at ih ⊢; rw [ih]
theorem boolsC_flat (bs : List Bool) : (bs.map fun b => [BC b]).flatten = boolsC bs := flat1 _ _

end Go.Proofs.Ytmagbjbanpgmhaa.CtR

namespace Go.Proofs.Ytmagbjbanpgmhaa.CtD
open Go Go.CT CtF CtR

theorem runP_sm (p : Pg) (m : Mm) : (runP p m).1.vals.length ≤ 12 ∧ (runP p m).1.arrays.length ≤ 2 ∧ (∀ a ∈ (runP p m).1.arrays, a.length ≤ 4) ∧ (runP p m).2.1.length ≤ 1000000 := by
  cases hq : (progOK p && memOK p.vars p.arrays m) with
  | false => rw [runP_false hq]; simp
  | true =>
    rw [runP_true hq]
    have hm := memFits_of hq
    simp only [Bool.and_eq_true] at hq
    have hb := body_of hq.1
    have h := runL_ok hm hb.1
    have h2 := h.2
    rw [wt5] at h2
    refine ⟨by rw [h.1.nv]; exact hm.nv12.2, by rw [h.1.na]; exact hm.na2, fun a ha => by have := (h.1.arr a ha).1; omega, ?_⟩
    have := hb.2
    simp only
    omega

end Go.Proofs.Ytmagbjbanpgmhaa.CtD

namespace Go.Proofs.Ytmagbjbanpgmhaa.CtD
open Go Go.CT CtF CtR

theorem ctInts (xs ys : List Int) (hl : xs.length ≤ mx) : DC Try.prog 23 [ints xs, ints ys] [] (fun r h => r = DB (decide (xs = ys)) ∧ h = []) := by
  have hmx := mx_eq
  have ret : ∀ (b : Bool) (hp : Hp), b = decide (xs = ys) → RetOb 0 (fun r h => r = DB (decide (xs = ys)) ∧ h = []) (DB b) hp := fun b hp h => RetOb.plain (d := DB _) ⟨by rw [h], rfl⟩ rfl
  by_cases hlen : xs.length = ys.length
  · have hb : ((xs.length : Int) != ys.length) = false := by simp [hlen]
    have he : ((xs.length : Int) = ys.length) = True := eq_true (by omega)
    refine dc_of_go Try.func23 rfl (by simp) ?_
    refine drv_sound (n := 100) (rs := _) Try.func23 mo rfl none _ _ ?_
    simp (maxSteps := 9999999) only [go_sem, ints, hb, he]
    refine Go.loopL (fun i : Nat => [(0, ints xs), (1, ints ys), (5, DI .i64 i)]) (fun _ => []) 1024 (fun i => i ≤ xs.length ∧ decide (xs = ys) = decide (xs.drop i = ys.drop i)) (fun i => xs.length - i) ?_ 0 some [] _ ⟨Nat.zero_le _, rfl⟩ ?_
    · intro i hi again
      refine drv_sound (n := 100) (rs := _) Try.func23 mo rfl none _ _ ?_
      rcases Nat.lt_or_ge i xs.length with hlt | hge
      · obtain ⟨x, hx⟩ : ∃ x, xs[i]? = some x := ⟨xs[i], by simp [hlt]⟩
        obtain ⟨y, hy⟩ : ∃ y, ys[i]? = some y := ⟨ys[i]'(by omega), by simp⟩
        have hI := hi.2
        obtain ⟨_, ex⟩ := List.getElem?_eq_some_iff.1 hx
        obtain ⟨hyl, ey⟩ := List.getElem?_eq_some_iff.1 hy
        rw [List.drop_eq_getElem_cons hlt, List.drop_eq_getElem_cons hyl, ex, ey] at hI
        simp (maxSteps := 9999999) only [go_sem, ints, hx, hy, hlt]
        (repeat' with_reducible apply And.intro) <;> (try first | omega | (simp only [InK]; omega) | (intro k e; cases e; rfl) | (intro hguard; exact ⟨hguard, by simp only [InK]; omega⟩) | kernel_rfl)
        · intro hne; exact ret _ _ (by rw [hI]; simp [hne])
        · intro heq; exact ⟨by simp only [InK]; omega, again (i + 1) some [] _ ⟨by omega, by rw [hI]; simp [heq]⟩ (by omega) (Mt.slots (by
            simp (maxSteps := 9999999) only [go_sem, TmOK, DM, DMs, CM, CMs, forall_eq, exists_eq_left, ints]))⟩
      · have hn : ¬ i < xs.length := by omega
        simp (maxSteps := 9999999) only [go_sem, ints, hn]
        refine ret _ _ ?_
        rw [hi.2, List.drop_of_length_le hge, List.drop_of_length_le (by omega)]; rfl
    · refine Mt.slots ?_
      simp (maxSteps := 9999999) only [go_sem, TmOK, DM, DMs, CM, CMs, forall_eq, exists_eq_left, ints]
  · have hb : ((xs.length : Int) != ys.length) = true := by simp; omega
    have he : ((xs.length : Int) = ys.length) = False := eq_false (by omega)
    refine dc_of_go Try.func23 rfl (by simp) ?_
    refine drv_sound (n := 100) (rs := _) Try.func23 mo rfl none _ _ ?_
    simp (maxSteps := 9999999) only [go_sem, ints, hb, he]
    refine ret _ _ ?_
    symm; rw [decide_eq_false_iff_not]; intro h; exact hlen (by rw [h])

end Go.Proofs.Ytmagbjbanpgmhaa.CtD

namespace Go.Proofs.Ytmagbjbanpgmhaa.CtR
open Go Go.CT CtF

theorem cellI (p : Pg) (a : Int) (hl : p.vars.length ≤ mx) (ha : 0 ≤ a ∧ a ≤ 1000) : DC Try.prog 95 [.agg p.cells, DI .i64 a] [] (fun r h => r = DI .i64 (p.vars.length + a) ∧ h = []) := by
  have hmx := mx_eq
  obtain ⟨vs, ar, bd⟩ := p
  have hl : vs.length ≤ mx := hl
  refine dcZ Try.func95 ?_
  simp (maxSteps := 9999999) only [go_sem]
  iterate 2 ((try (refine drvZ Try.func95 ?_; simp (maxSteps := 9999999) only [go_sem])); (try ((with_reducible refine And.intro ?_ ?_) <;> (repeat' with_reducible apply And.intro) <;> try exact sd)))
  exact RetOb.plain (d := DI .i64 _) ⟨rfl, rfl⟩ rfl
theorem cellsI (p : Pg) (hl : p.vars.length ≤ mx) (hl2 : p.arrays.length ≤ mx) : DC Try.prog 62 [.agg p.cells] [] (fun r h => r = DI .i64 ((p.vars.length + p.arrays.length : Nat) : Int) ∧ h = []) := by
  have hmx := mx_eq
  obtain ⟨vs, ar, bd⟩ := p
  have hl : vs.length ≤ mx := hl
  have hl2 : ar.length ≤ mx := hl2
  refine dcZ Try.func62 ?_
  simp (maxSteps := 9999999) only [go_sem]
  iterate 2 ((try (refine drvZ Try.func62 ?_; simp (maxSteps := 9999999) only [go_sem])); (try ((with_reducible refine And.intro ?_ ?_) <;> (repeat' with_reducible apply And.intro) <;> try exact sd)))
  exact RetOb.plain (d := DI .i64 _) ⟨rfl, rfl⟩ rfl
theorem cellsS (p : Pg) (hl : p.vars.length ≤ mx) (hl2 : p.arrays.length ≤ mx) : DC Try.prog 38 [.agg p.cells] [] (fun r h => r = DI .i64 ((p.vars.length + p.arrays.length : Nat) : Int) ∧ h = []) := by
  have hmx := mx_eq
  obtain ⟨vs, ar, bd⟩ := p
  have hl : vs.length ≤ mx := hl
  have hl2 : ar.length ≤ mx := hl2
  refine dcZ Try.func38 ?_
  simp (maxSteps := 9999999) only [go_sem]
  iterate 2 ((try (refine drvZ Try.func38 ?_; simp (maxSteps := 9999999) only [go_sem])); (try ((with_reducible refine And.intro ?_ ?_) <;> (repeat' with_reducible apply And.intro) <;> try exact sd)))
  exact RetOb.plain (d := DI .i64 _) ⟨rfl, rfl⟩ rfl

/-- The cells that an expression reads, as bits. -/
def occB (nv : Nat) (k v : Int) : Nat := if k = 2 then 2 ^ v.toNat else if k = 3 then 2 ^ (nv + v.toNat) else 0
def occN (nv : Nat) : Nat → Ex → Nat
  | 0, _ => 0
  | d + 1, .mk k v ks => (ks.map (occN nv d)).foldl (fun a b => a ||| b) (occB nv k v)
theorem pow14 {n : Nat} (h : n < 14) : 2 ^ n < 16384 := Nat.lt_of_lt_of_le (Nat.pow_lt_pow_right (by decide) h) (by decide)
end Go.Proofs.Ytmagbjbanpgmhaa.CtR

namespace Go.Proofs.Ytmagbjbanpgmhaa.CtD
open Go Go.CT CtF CtR

theorem none0_eq {e : Ex} (h : none0 e = true) : e = .mk 0 0 [] := by
  obtain ⟨k, v, ks⟩ := e
  simp only [none0, Ex.kind, Ex.value, Ex.kids, Bool.and_eq_true, beq_iff_eq, decide_eq_true_eq] at h
  obtain ⟨⟨rfl, rfl⟩, h3⟩ := h
  have : ks = [] := List.isEmpty_iff.1 h3
  rw [this]
theorem exprs_of {p : Pg} {d : Nat} {k t : Int} {ix v : Ex} {c : Int} {b e : List St1} (h : stmtOK p (d + 1) (.mk k t ix v c b e) = true) :
    (CtR.shape p 5 ix = true ∨ ix = .mk 0 0 []) ∧ (CtR.shape p 5 v = true ∨ v = .mk 0 0 []) := by
  have h1 := (stmtOK_succ h).1
  have hk := head_kind h1
  unfold headOK parts at h1
  rcases hk with ⟨hk, _, _, hr⟩ | ⟨rfl, _, _, hr, _, hr2⟩ | ⟨rfl, hr⟩ | ⟨rfl, _⟩
  · refine ⟨.inr (none0_eq ?_), .inl (right_shape hr).1⟩
    have hk4 : k ≠ 4 := by omega
    have hk2 : (k == 2) = false := by simp; omega
    simp [hk4, hk2] at h1
    exact h1.1.2.2
  · exact ⟨.inl (right_shape hr).1, .inl (right_shape hr2).1⟩
  · refine ⟨.inr (none0_eq ?_), .inl (right_shape hr).1⟩
    simp at h1
    exact h1.1.2.2
  · simp at h1
    refine ⟨.inr (none0_eq ?_), .inr (none0_eq ?_)⟩ <;> grind
end Go.Proofs.Ytmagbjbanpgmhaa.CtD

namespace Go.Proofs.Ytmagbjbanpgmhaa.CtD
open Go Go.CT CtF CtR

/-- A statement of a slice, the wanted cells given as a predicate. -/
def cutS (q : Nat → Bool) (nv : Nat) (f : List St1 → List St1) : St1 → Option St1
  | .mk k t ix v c b e =>
    if k = 5 then some (.mk k t ix v c b e) else if k = 1 then (if q t.toNat then some (.mk k t ix v c b e) else none) else if k = 2 then (if q (nv + t.toNat) then some (.mk k t ix v c b e) else none)
    else if 0 < (f b).length + (f e).length then some (.mk k t ix v c (f b) (f e)) else none
def cutL (q : Nat → Bool) (nv : Nat) : Nat → List St1 → List St1
  | 0, _ => []
  | d + 1, l => l.filterMap (cutS q nv (cutL q nv d))
/-- The cells that the statements of a slice read, added to a set. -/
def addS (q : Nat → Bool) (nv : Nat) (f : List St1 → List St1) (g : List St1 → Nat) (a : Nat) : St1 → Nat
  | .mk k t ix v c b e =>
    let a1 := if k = 5 ∨ k = 1 ∨ k = 2 then a else a ||| (g b ||| g e)
    if (cutS q nv f (.mk k t ix v c b e)).isSome then a1 ||| (occN nv 5 v ||| occN nv 5 ix) else a1
def setN (q : Nat → Bool) (nv : Nat) : Nat → List St1 → Nat
  | 0, _ => 0
  | d + 1, l => l.foldl (addS q nv (cutL q nv d) (setN q nv d)) 0

theorem tbit (N k : Nat) : ((((N : Int) / 2 ^ k).toNat &&& 1 : Nat) : Int) = if N.testBit k then 1 else 0 := by
  have e : ((N : Int) / 2 ^ k).toNat = N / 2 ^ k := by
    have : ((2 : Int) ^ k) = ((2 ^ k : Nat) : Int) := by rw [Int.natCast_pow]; rfl
    rw [this, ← Int.natCast_ediv]; rfl
  rw [e, Nat.and_one_is_mod, Nat.testBit_eq_decide_div_mod_eq]
  by_cases h : N / 2 ^ k % 2 = 1
  · simp [h]
  · have : N / 2 ^ k % 2 = 0 := by omega
    simp [this]
end Go.Proofs.Ytmagbjbanpgmhaa.CtD

namespace Go.Proofs.Ytmagbjbanpgmhaa.CtD
open Go Go.CT CtF CtR

/-! Slices, plain: the least closed set. -/
def subB (a : Nat) (q : Nat → Bool) : Prop := ∀ i, a.testBit i = true → q i = true
theorem subB_or {a b : Nat} {q : Nat → Bool} : subB (a ||| b) q ↔ subB a q ∧ subB b q := by
  unfold subB
  constructor
  · intro h
    exact ⟨fun i hi => h i (by rw [Nat.testBit_or, hi, Bool.true_or]), fun i hi => h i (by rw [Nat.testBit_or, hi, Bool.or_true])⟩
  · rintro ⟨h1, h2⟩ i hi
    rw [Nat.testBit_or, Bool.or_eq_true] at hi
    exact hi.elim (h1 i) (h2 i)
theorem subB_zero (q : Nat → Bool) : subB 0 q := fun i h => by simp at h
def leB (q q' : Nat → Bool) : Prop := ∀ i, q i = true → q' i = true
/-- With more cells, a slice keeps more, and reads more. -/
theorem cut_mono (nv : Nat) {q q' : Nat → Bool} (h : leB q q') : ∀ (d : Nat) (l : List St1), (0 < (cutL q nv d l).length → 0 < (cutL q' nv d l).length) ∧ ∀ r, subB (setN q' nv d l) r → subB (setN q nv d l) r := by
  intro d
  induction d with
  | zero => intro l; exact ⟨fun h => h, fun r h => h⟩
  | succ d ih =>
    have hS : ∀ s, (cutS q nv (cutL q nv d) s).isSome = true → (cutS q' nv (cutL q' nv d) s).isSome = true := fun s => by
      obtain ⟨k, t, ix, v, c, b, e⟩ := s
      simp only [cutS]
      by_cases h5 : k = 5
      · simp [h5]
      · by_cases h1 : k = 1
        · simp only [h5, h1, if_false, if_true]
          cases hq : q t.toNat with
          | false => simp
          | true => simp [h _ hq]
        · by_cases h2 : k = 2
          · simp only [h5, h1, h2, if_false, if_true]
            cases hq : q (nv + t.toNat) with
            | false => simp
            | true => simp [h _ hq]
          · simp only [h5, h1, h2, if_false]
            intro hh
            have : 0 < (cutL q nv d b).length + (cutL q nv d e).length := by
              by_cases h0 : 0 < (cutL q nv d b).length + (cutL q nv d e).length
              · exact h0
              · rw [if_neg h0] at hh; simp at hh
            have h3 := (ih b).1
            have h4 := (ih e).1
            rw [if_pos (by omega)]; rfl
    have hA : ∀ s r a a', (subB a' r → subB a r) → subB (addS q' nv (cutL q' nv d) (setN q' nv d) a' s) r → subB (addS q nv (cutL q nv d) (setN q nv d) a s) r := fun s r a a' haa => by
      have hss := hS s
      obtain ⟨k, t, ix, v, c, b, e⟩ := s
      simp only [addS]
      have hb := (ih b).2 r
      have he := (ih e).2 r
      have h1 : subB (if k = 5 ∨ k = 1 ∨ k = 2 then a' else a' ||| (setN q' nv d b ||| setN q' nv d e)) r → subB (if k = 5 ∨ k = 1 ∨ k = 2 then a else a ||| (setN q nv d b ||| setN q nv d e)) r := by
        split
        · exact haa
        · intro hh
          rw [subB_or, subB_or] at hh ⊢
          exact ⟨haa hh.1, hb hh.2.1, he hh.2.2⟩
      intro hh
      cases hc : (cutS q nv (cutL q nv d) (.mk k t ix v c b e)).isSome with
      | true =>
        rw [hss hc] at hh
        simp only [if_true] at hh ⊢
        rw [subB_or] at hh ⊢
        exact ⟨h1 hh.1, hh.2⟩
      | false =>
        simp only [Bool.false_eq_true, if_false]
        apply h1
        split at hh
        · exact (subB_or.1 hh).1
        · exact hh
    intro l
    refine ⟨fun hl => ?_, fun r => ?_⟩
    · simp only [cutL] at hl ⊢
      obtain ⟨x, hx⟩ := List.exists_mem_of_length_pos hl
      obtain ⟨s, hs, he⟩ := List.mem_filterMap.1 hx
      have := hS s (by rw [he]; rfl)
      obtain ⟨y, hy⟩ := Option.isSome_iff_exists.1 this
      exact List.length_pos_of_mem (List.mem_filterMap.2 ⟨s, hs, hy⟩)
    · simp only [setN]
      have gen : ∀ (l : List St1) (a a' : Nat), (subB a' r → subB a r) → subB (l.foldl (addS q' nv (cutL q' nv d) (setN q' nv d)) a') r → subB (l.foldl (addS q nv (cutL q nv d) (setN q nv d)) a) r := fun l => by
        induction l with
        | nil => intro a a' h; exact h
        | cons s t iht => intro a a' h; exact iht _ _ (hA s r a a' h)
      exact gen l 0 0 (fun h => h)

structure Least (p : Pg) (ws : List Bool) (q : Nat → Bool) : Prop where
  want : ∀ i, ws.getD i false = true → q i = true
  closed : subB (setN q p.vars.length 5 p.body) q
  least : ∀ q' : Nat → Bool, (∀ i, ws.getD i false = true → q' i = true) → subB (setN q' p.vars.length 5 p.body) q' → leB q q'
theorem Least.eq {p : Pg} {ws : List Bool} {q q' : Nat → Bool} (h : Least p ws q) (h' : Least p ws q') : q = q' := funext fun i => by
  have h1 := h.least q' h'.want h'.closed i
  have h2 := h'.least q h.want h.closed i
  cases ha : q i <;> cases hb : q' i <;> simp_all

end Go.Proofs.Ytmagbjbanpgmhaa.CtD

namespace Go.Proofs.Ytmagbjbanpgmhaa.CtD
open Go Go.CT CtF CtR

def slP (p : Pg) (q : Nat → Bool) : Pg := ⟨p.vars, p.arrays, cutL q p.vars.length 5 p.body⟩
end Go.Proofs.Ytmagbjbanpgmhaa.CtD

namespace Go.Proofs.Ytmagbjbanpgmhaa.CtD
open Go Go.CT CtF CtR

def usesL (nv : Nat) : Nat → Ex → List Bool → List Bool
  | 0, _, L => L
  | d + 1, .mk k v ks, L => ks.foldl (fun L x => usesL nv d x L) (if k = 2 then L.set v.toNat true else if k = 3 then L.set (nv + v.toNat) true else L)
theorem usesL_len (nv : Nat) : ∀ (d : Nat) (e : Ex) (L : List Bool), (usesL nv d e L).length = L.length
  | 0, _, L => rfl
  | d + 1, .mk k v ks, L => by
    have gen : ∀ (ks : List Ex) (L : List Bool), (ks.foldl (fun L x => usesL nv d x L) L).length = L.length := fun ks => by
      induction ks with
      | nil => intro L; rfl
      | cons a r ih => intro L; rw [List.foldl_cons, ih, usesL_len nv d a L]
    simp only [usesL]
    rw [gen]
    split
    · simp
    · split <;> simp

end Go.Proofs.Ytmagbjbanpgmhaa.CtD

namespace Go.Proofs.Ytmagbjbanpgmhaa.CtD
open Go Go.CT CtF CtR

def needS (nv : Nat) (f : List St1 → List Bool → Bool × List Bool) (L : List Bool) : St1 → Bool × List Bool
  | .mk k t ix v c b e =>
    let y := if k = 1 then (L.getD t.toNat false, L) else if k = 2 then (L.getD (nv + t.toNat) false, L) else if k = 5 then (true, L) else ((f b L).1 || (f e (f b L).2).1, (f e (f b L).2).2)
    (y.1, if y.1 then usesL nv 5 ix (usesL nv 5 v y.2) else y.2)
def needL (nv : Nat) : Nat → List St1 → List Bool → Bool × List Bool
  | 0, _, L => (false, L)
  | d + 1, l, L => l.foldl (fun x s => (x.1 || (needS nv (needL nv d) x.2 s).1, (needS nv (needL nv d) x.2 s).2)) (false, L)
theorem boolsC_at {L : List Bool} {i : Nat} (h : i < L.length) : (boolsC L)[i]? = some (.v (.bool (L.getD i false))) := by
  unfold boolsC
  rw [List.getElem?_map, List.getD_eq_getElem?_getD, List.getElem?_eq_getElem h]; rfl

end Go.Proofs.Ytmagbjbanpgmhaa.CtD

namespace Go.Proofs.Ytmagbjbanpgmhaa.CtD
open Go Go.CT CtF CtR

def jnA (L M : List Bool) : Nat → Bool × List Bool
  | 0 => (false, L)
  | i + 1 => if M.getD i false && !(jnA L M i).2.getD i false then (true, (jnA L M i).2.set i true) else jnA L M i
theorem jnA_len (L M : List Bool) : ∀ i, (jnA L M i).2.length = L.length
  | 0 => rfl
  | i + 1 => by
    rw [jnA]
    split
    · simp [jnA_len L M i]
    · exact jnA_len L M i
theorem jnA_hi (L M : List Bool) : ∀ i j, i ≤ j → (jnA L M i).2.getD j false = L.getD j false
  | 0, j, _ => rfl
  | i + 1, j, h => by
    rw [jnA]
    split
    · rw [← jnA_hi L M i j (by omega)]
      simp only [List.getD_eq_getElem?_getD]
      rw [List.getElem?_set_ne (by omega)]
    · exact jnA_hi L M i j (by omega)
theorem jnA_iff (L M : List Bool) : ∀ i, (jnA L M i).1 = true ↔ ∃ j, j < i ∧ M.getD j false = true ∧ L.getD j false = false
  | 0 => by simp [jnA]
  | i + 1 => by
    have h := jnA_iff L M i
    have h2 := jnA_hi L M i i (Nat.le_refl _)
    rw [jnA, h2]
    cases hm : M.getD i false with
    | false =>
      simp only [Bool.false_and, Bool.false_eq_true, if_false]
      rw [h]
      constructor
      · rintro ⟨j, a, b, c⟩; exact ⟨j, by omega, b, c⟩
      · rintro ⟨j, a, b, c⟩
        refine ⟨j, ?_, b, c⟩
        rcases Nat.lt_or_eq_of_le (Nat.le_of_lt_succ a) with h | rfl
        · exact h
        · rw [hm] at b; cases b
    | true =>
      cases hl : L.getD i false with
      | true =>
        simp only [Bool.true_and, Bool.not_true, Bool.false_eq_true, if_false]
        rw [h]
        constructor
        · rintro ⟨j, a, b, c⟩; exact ⟨j, by omega, b, c⟩
        · rintro ⟨j, a, b, c⟩
          refine ⟨j, ?_, b, c⟩
          rcases Nat.lt_or_eq_of_le (Nat.le_of_lt_succ a) with h | rfl
          · exact h
          · rw [hl] at c; cases c
      | false =>
        simp only [Bool.true_and, Bool.not_false, if_true, true_iff]
        exact ⟨i, by omega, hm, hl⟩

theorem joinS (L M : List Bool) (hl : L.length ≤ 1000) (hM : M.length = L.length) :
    DC Try.prog 69 [.c (.msl 0 1 0 L.length), .c (.msl 1 1 0 L.length)] [some (boolsC L), some (boolsC M)] (fun r h => r = DB (jnA L M L.length).1 ∧ h = [some (boolsC (jnA L M L.length).2), some (boolsC M)]) := by
  have hmx := mx_eq
  have hfl := jnA_len L M
  generalize hR : (fun (r : D) (h : List (Option (List C))) => r = DB (jnA L M L.length).1 ∧ h = [some (boolsC (jnA L M L.length).2), some (boolsC M)]) = R
  refine dcZ Try.func69 ?_
  simp (maxSteps := 9999999) only [go_sem]
  ((try (refine drvZ Try.func69 ?_; simp (maxSteps := 9999999) only [go_sem])); (try ((with_reducible refine And.intro ?_ ?_) <;> (repeat' with_reducible apply And.intro) <;> try exact sd)))
  refine Go.loopQ (fun i : Nat => [(0, .c (.msl 0 1 0 L.length)), (1, .c (.msl 1 1 0 L.length)), (5, DB (jnA L M i).1), (6, DI .i64 i)])
    (fun i => [(0, some (boolsC (jnA L M i).2)), (1, some (boolsC M))]) 4096 (fun i => i ≤ L.length) (fun i => L.length - i) ?_ 0 some [] _ (Nat.zero_le _) ?_
  · intro i hi again
    have hFi := hfl i
    rcases Nat.lt_or_ge i L.length with hlt | hge
    · have a1 := @boolsC_at M i (by omega)
      have a2 := @boolsC_at (jnA L M i).2 i (by omega)
      have hs : jnA L M (i + 1) = if M.getD i false && !(jnA L M i).2.getD i false then (true, (jnA L M i).2.set i true) else jnA L M i := rfl
      have hbl := boolsC_len (jnA L M i).2
      rw [hFi] at hbl
      generalize jnA L M i = Fi at *
      obtain ⟨c, Li⟩ := Fi
      simp only at hFi hs a2 hbl
      cases hm : M.getD i false with
      | false =>
        rw [hm] at a1 hs
        simp only [Bool.false_and, Bool.false_eq_true, if_false] at hs
        refine drvL Try.func69 ?_
        simp (maxSteps := 9999999) only [go_sem, hlt, a1, a2]
        iterate 4 ((try (refine drvZ Try.func69 ?_; simp (maxSteps := 9999999) only [go_sem, hlt, a1, a2])); (try ((with_reducible refine And.intro ?_ ?_) <;> (repeat' with_reducible apply And.intro) <;> try exact sd)))
        refine again (i + 1) some [] _ hlt (by omega) ?_
        rw [hs]
        simp (maxSteps := 9999999) only [go_sem, TmOK, DM, DMs, CM, CMs, forall_eq, exists_eq_left, Mq, HpOK, LowOK]
        simp
        exact ⟨CMs.kf (boolsC_kf _), CMs.kf (boolsC_kf _)⟩
      | true =>
        rw [hm] at a1 hs
        cases hq : Li.getD i false with
        | true =>
          rw [hq] at a2 hs
          simp only [Bool.true_and, Bool.not_true, Bool.false_eq_true, if_false] at hs
          refine drvL Try.func69 ?_
          simp (maxSteps := 9999999) only [go_sem, hlt, a1, a2]
          iterate 4 ((try (refine drvZ Try.func69 ?_; simp (maxSteps := 9999999) only [go_sem, hlt, a1, a2])); (try ((with_reducible refine And.intro ?_ ?_) <;> (repeat' with_reducible apply And.intro) <;> try exact sd)))
          refine again (i + 1) some [] _ hlt (by omega) ?_
          rw [hs]
          simp (maxSteps := 9999999) only [go_sem, TmOK, DM, DMs, CM, CMs, forall_eq, exists_eq_left, Mq, HpOK, LowOK]
          simp
          exact ⟨CMs.kf (boolsC_kf _), CMs.kf (boolsC_kf _)⟩
        | false =>
          rw [hq] at a2 hs
          simp only [Bool.true_and, Bool.not_false, if_true] at hs
          refine drvL Try.func69 ?_
          simp (maxSteps := 9999999) only [go_sem, hlt, a1, a2]
          iterate 5 ((try (refine drvZ Try.func69 ?_; simp (maxSteps := 9999999) only [go_sem, hlt, a1, a2, boolsC_set, hbl])); (try ((with_reducible refine And.intro ?_ ?_) <;> (repeat' with_reducible apply And.intro) <;> try exact sd)))
          refine again (i + 1) some [] _ hlt (by omega) ?_
          rw [hs]
          simp (maxSteps := 9999999) only [go_sem, TmOK, DM, DMs, CM, CMs, forall_eq, exists_eq_left, Mq, HpOK, LowOK]
          simp
          exact ⟨CMs.kf (boolsC_kf _), CMs.kf (boolsC_kf _)⟩
    · have hn2 : ¬ i < L.length := by omega
      obtain rfl : i = L.length := by omega
      refine drvL Try.func69 ?_
      simp (maxSteps := 9999999) only [go_sem, hn2]
      iterate 2 ((try (refine drvZ Try.func69 ?_; simp (maxSteps := 9999999) only [go_sem, hn2])); (try ((with_reducible refine And.intro ?_ ?_) <;> (repeat' with_reducible apply And.intro) <;> try exact sd)))
      refine RetOb.ofQ some [] (DB (jnA L M L.length).1) [some (boolsC (jnA L M L.length).2), some (boolsC M)] ?_ (by rw [← hR]; exact ⟨rfl, rfl⟩) (by simp)
      simp [enumL, DM, DMs, CM, HpOK, LowOK, hOf, upd]
      exact ⟨CMs.kf (boolsC_kf _), CMs.kf (boolsC_kf _)⟩
  · simp (maxSteps := 9999999) only [go_sem, TmOK, DM, DMs, CM, CMs, forall_eq, exists_eq_left, Mq, HpOK, LowOK, jnA]
    simp
    exact ⟨CMs.kf (boolsC_kf _), CMs.kf (boolsC_kf _)⟩
end Go.Proofs.Ytmagbjbanpgmhaa.CtD

namespace Go.Proofs.Ytmagbjbanpgmhaa.CtD
open Go Go.CT CtF CtR

theorem cutL_nil (q : Nat → Bool) (nv d : Nat) : cutL q nv d [] = [] := by cases d <;> simp [cutL]
end Go.Proofs.Ytmagbjbanpgmhaa.CtD

namespace Go.Proofs.Ytmagbjbanpgmhaa.CtD
open Go Go.CT CtF CtR

/-! Plain: the reference's slice is the least closed set too. -/
def gL (L : List Bool) : Nat → Bool := fun i => L.getD i false
theorem gL_ext {L L' : List Bool} (h : L'.length = L.length) (h1 : leB (gL L) (gL L')) (h2 : leB (gL L') (gL L)) : L' = L := by
  apply List.ext_getElem h
  intro i a b
  have e1 := h1 i
  have e2 := h2 i
  simp only [gL, List.getD_eq_getElem?_getD, List.getElem?_eq_getElem a, List.getElem?_eq_getElem b, Option.getD_some] at e1 e2
  cases hx : L'[i] <;> cases hy : L[i] <;> simp_all
theorem gL_set {L : List Bool} {j : Nat} (h : j < L.length) (i : Nat) : gL (L.set j true) i = true ↔ gL L i = true ∨ (2 ^ j).testBit i = true := by
  simp only [gL, List.getD_eq_getElem?_getD, Nat.testBit_two_pow, decide_eq_true_eq]
  by_cases hij : j = i
  · subst hij; simp [List.getElem?_set_self h]
  · rw [List.getElem?_set_ne hij]; simp [hij]
theorem usesL_mem {p : Pg} (i : Nat) : ∀ (d : Nat) (e : Ex) (L : List Bool), CtR.shape p d e = true → L.length = p.vars.length + p.arrays.length →
    (gL (usesL p.vars.length d e L) i = true ↔ gL L i = true ∨ (occN p.vars.length d e).testBit i = true)
  | 0, e, L, h, _ => by simp [CtR.shape] at h
  | d + 1, .mk k v ks, L, h, hL => by
    obtain ⟨g1, g2, g3⟩ := shape_succ h
    obtain ⟨hl3, hla, hv0, hv1⟩ := fits_len g1
    have hlim : k = 2 → v < p.vars.length := fun hk => by subst hk; simpa [limit] using hv1
    have hlim3 : k = 3 → v < p.arrays.length := fun hk => by subst hk; simpa [limit] using hv1
    have gen : ∀ (ks : List Ex), (∀ x ∈ ks, CtR.shape p d x = true) → ∀ (M : List Bool) (a : Nat), M.length = L.length → (gL M i = true ↔ gL L i = true ∨ a.testBit i = true) →
        (gL (ks.foldl (fun L x => usesL p.vars.length d x L) M) i = true ↔ gL L i = true ∨ ((ks.map (occN p.vars.length d)).foldl (fun a b => a ||| b) a).testBit i = true) := fun ks => by
      induction ks with
      | nil => intro _ M a _ h; exact h
      | cons x r ih =>
        intro hs M a hM h
        rw [List.foldl_cons, List.map_cons, List.foldl_cons]
        refine ih (fun y hy => hs y (by simp [hy])) _ _ (by rw [usesL_len, hM]) ?_
        rw [usesL_mem i d x M (hs x (by simp)) (by omega), h, Nat.testBit_or, Bool.or_eq_true, or_assoc]
    simp only [usesL, occN]
    refine gen ks g2 _ _ (by split <;> (try split) <;> simp) ?_
    unfold occB
    by_cases h2 : k = 2
    · have := hlim h2
      simp only [h2, if_true]
      exact gL_set (by omega) i
    · by_cases h3 : k = 3
      · have := hlim3 h3
        simp only [h2, h3, if_true, if_false]
        first | exact gL_set (by omega) i | (simp only [Int.reduceEq, if_false]; exact gL_set (by omega) i)
      · simp [h2, h3]
theorem usesE_mem {p : Pg} (i : Nat) {e : Ex} (h : CtR.shape p 5 e = true ∨ e = .mk 0 0 []) (L : List Bool) (hL : L.length = p.vars.length + p.arrays.length) :
    (gL (usesL p.vars.length 5 e L) i = true ↔ gL L i = true ∨ (occN p.vars.length 5 e).testBit i = true) := by
  rcases h with h | rfl
  · exact usesL_mem i 5 e L h hL
  · simp [usesL, occN, occB]

structure NS (L L' : List Bool) (K : Bool) (A : (Nat → Bool) → Nat) (K' : (Nat → Bool) → Bool) : Prop where
  len : L'.length = L.length
  s1 : leB (gL L) (gL L')
  s2 : ∀ q', leB (gL L) q' → subB (A q') q' → leB (gL L') q' ∧ (K = true → K' q' = true)
  s3 : leB (gL L') (gL L) → subB (A (gL L)) (gL L) ∧ (K' (gL L) = true → K = true)
theorem NS.nil (L : List Bool) : NS L L false (fun _ => 0) (fun _ => false) :=
  ⟨rfl, fun i h => h, fun q' h _ => ⟨h, fun h => by cases h⟩, fun _ => ⟨subB_zero _, fun h => by cases h⟩⟩
theorem NS.seq {L L1 L2 : List Bool} {K1 K2 : Bool} {A1 A2 : (Nat → Bool) → Nat} {B1 B2 : (Nat → Bool) → Bool} (h1 : NS L L1 K1 A1 B1) (h2 : NS L1 L2 K2 A2 B2) :
    NS L L2 (K1 || K2) (fun q => A1 q ||| A2 q) (fun q => B1 q || B2 q) := by
  refine ⟨by rw [h2.len, h1.len], fun i h => h2.s1 i (h1.s1 i h), fun q' hl hs => ?_, fun hl => ?_⟩
  · obtain ⟨sa, sb⟩ := subB_or.1 hs
    have a := h1.s2 q' hl sa
    have b := h2.s2 q' a.1 sb
    refine ⟨b.1, fun h => ?_⟩
    rw [Bool.or_eq_true] at h ⊢
    exact h.imp a.2 b.2
  · have e1 : L1 = L := gL_ext h1.len h1.s1 (fun i h => hl i (h2.s1 i h))
    subst e1
    have a := h1.s3 (fun i h => h)
    have b := h2.s3 hl
    refine ⟨subB_or.2 ⟨a.1, b.1⟩, fun h => ?_⟩
    rw [Bool.or_eq_true] at h ⊢
    exact h.imp a.2 b.2
theorem NS.keep {L L1 U : List Bool} {K : Bool} {A : (Nat → Bool) → Nat} {B : (Nat → Bool) → Bool} (o : Nat) (h : NS L L1 K A B) (hl : U.length = L1.length) (hU : ∀ i, gL U i = true ↔ gL L1 i = true ∨ o.testBit i = true) :
    NS L (if K then U else L1) K (fun q => if B q then A q ||| o else A q) B := by
  cases hK : K with
  | false =>
    rw [hK] at h
    refine ⟨h.len, h.s1, fun q' hle hs => ?_, fun hle => ?_⟩
    · have : subB (A q') q' := by
        split at hs
        · exact (subB_or.1 hs).1
        · exact hs
      exact h.s2 q' hle this
    · have a := h.s3 hle
      have hb : B (gL L) = false := by
        cases hB : B (gL L) with
        | false => rfl
        | true => exact absurd (a.2 hB) (by simp)
      refine ⟨?_, a.2⟩
      simp only [hb, Bool.false_eq_true, if_false]
      exact a.1
  | true =>
    rw [hK] at h
    refine ⟨by rw [if_pos rfl, hl, h.len], fun i hi => ?_, fun q' hle hs => ?_, fun hle => ?_⟩
    · rw [if_pos rfl]; exact (hU i).2 (.inl (h.s1 i hi))
    · have a : subB (A q') q' := by
        split at hs
        · exact (subB_or.1 hs).1
        · exact hs
      have b := h.s2 q' hle a
      refine ⟨fun i hi => ?_, b.2⟩
      rw [if_pos rfl] at hi
      have hb := b.2 rfl
      simp only [hb, if_true] at hs
      rcases (hU i).1 hi with h1 | h1
      · exact b.1 i h1
      · exact (subB_or.1 hs).2 i h1
    · rw [if_pos rfl] at hle
      have a := h.s3 (fun i hi => hle i ((hU i).2 (.inl hi)))
      refine ⟨?_, a.2⟩
      have ho : subB o (gL L) := fun i hi => hle i ((hU i).2 (.inr hi))
      split
      · exact subB_or.2 ⟨a.1, ho⟩
      · exact a.1
theorem addS_or (q : Nat → Bool) (nv : Nat) (f : List St1 → List St1) (g : List St1 → Nat) (a : Nat) (s : St1) : addS q nv f g a s = a ||| addS q nv f g 0 s := by
  obtain ⟨k, t, ix, v, c, b, e⟩ := s
  simp only [addS]
  split <;> split <;> simp [Nat.or_assoc]
theorem NS.fold (nv : Nat) (f : List St1 → List Bool → Bool × List Bool) (g : (Nat → Bool) → List St1 → List St1) (w : (Nat → Bool) → List St1 → Nat) (L0 : List Bool) : ∀ (l : List St1) (x : Bool × List Bool) (A : (Nat → Bool) → Nat) (B : (Nat → Bool) → Bool),
    (∀ s ∈ l, ∀ L : List Bool, L.length = L0.length → NS L (needS nv f L s).2 (needS nv f L s).1 (fun q => addS q nv (g q) (w q) 0 s) (fun q => (cutS q nv (g q) s).isSome)) → NS L0 x.2 x.1 A B →
    NS L0 (l.foldl (fun x s => (x.1 || (needS nv f x.2 s).1, (needS nv f x.2 s).2)) x).2 (l.foldl (fun x s => (x.1 || (needS nv f x.2 s).1, (needS nv f x.2 s).2)) x).1 (fun q => l.foldl (addS q nv (g q) (w q)) (A q)) (fun q => B q || l.any fun s => (cutS q nv (g q) s).isSome)
  | [], x, A, B, _, h => by simpa using h
  | s :: r, x, A, B, hs, h => by
    have h1 := h.seq (hs s (by simp) x.2 h.len)
    have h2 := NS.fold nv f g w L0 r (x.1 || (needS nv f x.2 s).1, (needS nv f x.2 s).2) _ _ (fun y hy => hs y (by simp [hy])) h1
    simp only [List.foldl_cons, List.any_cons]
    have e1 : (fun q => List.foldl (addS q nv (g q) (w q)) (addS q nv (g q) (w q) (A q) s) r) = (fun q => List.foldl (addS q nv (g q) (w q)) (A q ||| addS q nv (g q) (w q) 0 s) r) := funext fun q => by rw [addS_or]
    rw [e1]
    simp only [Bool.or_assoc] at h2 ⊢
    exact h2
theorem any_pos (f : St1 → Option St1) (l : List St1) : (l.any fun s => (f s).isSome) = decide (0 < (l.filterMap f).length) := by
  induction l with
  | nil => rfl
  | cons a r ih =>
    rw [List.any_cons, List.filterMap_cons, ih]
    cases h : f a <;> simp
theorem NS.need {p : Pg} : ∀ (d : Nat) (l : List St1) (L : List Bool), (∀ s ∈ l, stmtOK p d s = true) → L.length = p.vars.length + p.arrays.length →
    NS L (needL p.vars.length d l L).2 (needL p.vars.length d l L).1 (fun q => setN q p.vars.length d l) (fun q => decide (0 < (cutL q p.vars.length d l).length))
  | 0, l, L, h, _ => by
    have := NS.nil L
    simpa [needL, setN, cutL] using this
  | d + 1, l, L, h, hL => by
    have hone : ∀ s ∈ l, ∀ M : List Bool, M.length = L.length → NS M (needS p.vars.length (needL p.vars.length d) M s).2 (needS p.vars.length (needL p.vars.length d) M s).1 (fun q => addS q p.vars.length (cutL q p.vars.length d) (setN q p.vars.length d) 0 s) (fun q => (cutS q p.vars.length (cutL q p.vars.length d) s).isSome) := fun s hs M hM => by
      have hok := h s hs
      obtain ⟨k, t, ix, v, c, b, e⟩ := s
      have hbe := stmtOK_succ hok
      have hex := exprs_of hok
      have hb := NS.need d b M hbe.2.1 (by omega)
      have he := NS.need d e (needL p.vars.length d b M).2 hbe.2.2 (by rw [hb.len]; omega)
      have hU : ∀ M1 : List Bool, M1.length = L.length → ∀ i, gL (usesL p.vars.length 5 ix (usesL p.vars.length 5 v M1)) i = true ↔ gL M1 i = true ∨ (occN p.vars.length 5 v ||| occN p.vars.length 5 ix).testBit i = true := fun M1 hM1 i => by
        rw [usesE_mem i hex.1 _ (by rw [usesL_len]; omega), usesE_mem i hex.2 _ (by omega), Nat.testBit_or, Bool.or_eq_true, or_assoc]
      have hlen : ∀ M1 : List Bool, (usesL p.vars.length 5 ix (usesL p.vars.length 5 v M1)).length = M1.length := fun M1 => by rw [usesL_len, usesL_len]
      have h0 : ∀ q : Nat → Bool, 0 ||| (occN p.vars.length 5 v ||| occN p.vars.length 5 ix) = (occN p.vars.length 5 v ||| occN p.vars.length 5 ix) := fun q => Nat.zero_or _
      by_cases h5 : k = 5
      · have base : NS M M true (fun _ => 0) (fun _ => true) := ⟨rfl, fun i h => h, fun q' h _ => ⟨h, fun _ => rfl⟩, fun _ => ⟨subB_zero _, fun _ => rfl⟩⟩
        have := base.keep (U := usesL p.vars.length 5 ix (usesL p.vars.length 5 v M)) _ (hlen M) (hU M hM)
        simpa [needS, addS, cutS, h5] using this
      · by_cases h1 : k = 1
        · have base : NS M M (gL M t.toNat) (fun _ => 0) (fun q => q t.toNat) := ⟨rfl, fun i h => h, fun q' h _ => ⟨h, fun h1 => h _ h1⟩, fun _ => ⟨subB_zero _, fun h => h⟩⟩
          have := base.keep (U := usesL p.vars.length 5 ix (usesL p.vars.length 5 v M)) _ (hlen M) (hU M hM)
          have ek : ∀ q : Nat → Bool, (cutS q p.vars.length (cutL q p.vars.length d) (.mk k t ix v c b e)).isSome = q t.toNat := fun q => by simp only [cutS, h5, h1, if_false, if_true]; cases q t.toNat <;> simp
          simp only [addS, ek]
          simpa [needS, gL, h5, h1] using this
        · by_cases h2 : k = 2
          · have base : NS M M (gL M (p.vars.length + t.toNat)) (fun _ => 0) (fun q => q (p.vars.length + t.toNat)) := ⟨rfl, fun i h => h, fun q' h _ => ⟨h, fun h1 => h _ h1⟩, fun _ => ⟨subB_zero _, fun h => h⟩⟩
            have := base.keep (U := usesL p.vars.length 5 ix (usesL p.vars.length 5 v M)) _ (hlen M) (hU M hM)
            have ek : ∀ q : Nat → Bool, (cutS q p.vars.length (cutL q p.vars.length d) (.mk k t ix v c b e)).isSome = q (p.vars.length + t.toNat) := fun q => by simp only [cutS, h5, h1, h2, if_false, if_true]; cases q (p.vars.length + t.toNat) <;> simp
            simp only [addS, ek]
            simpa [needS, gL, h5, h1, h2] using this
          · have base := hb.seq he
            have hl2 : (needL p.vars.length d e (needL p.vars.length d b M).2).2.length = L.length := by rw [he.len, hb.len, hM]
            have := base.keep (U := usesL p.vars.length 5 ix (usesL p.vars.length 5 v (needL p.vars.length d e (needL p.vars.length d b M).2).2)) _ (hlen _) (hU _ hl2)
            have ek : ∀ q : Nat → Bool, (cutS q p.vars.length (cutL q p.vars.length d) (.mk k t ix v c b e)).isSome = (decide (0 < (cutL q p.vars.length d b).length) || decide (0 < (cutL q p.vars.length d e).length)) := fun q => by
              simp only [cutS, h5, h1, h2, if_false]
              by_cases hpos : 0 < (cutL q p.vars.length d b).length + (cutL q p.vars.length d e).length
              · rw [if_pos hpos]
                rcases Nat.lt_or_ge 0 (cutL q p.vars.length d b).length with h | h
                · simp [h]
                · have : 0 < (cutL q p.vars.length d e).length := by omega
                  simp [this]
              · rw [if_neg hpos]
                have h1 : ¬ 0 < (cutL q p.vars.length d b).length := by omega
                have h2 : ¬ 0 < (cutL q p.vars.length d e).length := by omega
                simp only [h1, h2]; rfl
            simp only [addS, ek]
            have hc : ¬ (k = 5 ∨ k = 1 ∨ k = 2) := by omega
            simp only [needS, h5, h1, h2, if_false, or_self, Nat.zero_or]
            exact this
    have := NS.fold p.vars.length (needL p.vars.length d) (fun q => cutL q p.vars.length d) (fun q => setN q p.vars.length d) L l (false, L) _ _ hone (NS.nil L)
    simp only [any_pos, Bool.false_or] at this
    exact this

/-- The reference's loop: an invariant, and what holds where it ends. -/
structure Under (p : Pg) (ws L : List Bool) : Prop where
  len : L.length = p.vars.length + p.arrays.length
  want : leB (gL ws) (gL L)
  least : ∀ q' : Nat → Bool, (∀ i, ws.getD i false = true → q' i = true) → subB (setN q' p.vars.length 5 p.body) q' → leB (gL L) q'
theorem Under.next {p : Pg} {ws L : List Bool} (hb : ∀ s ∈ p.body, stmtOK p 5 s = true) (h : Under p ws L) : Under p ws (needL p.vars.length 5 p.body L).2 := by
  have n := NS.need 5 p.body L hb h.len
  exact ⟨by rw [n.len, h.len], fun i hi => n.s1 i (h.want i hi), fun q' h1 h2 => (n.s2 q' (h.least q' h1 h2) h2).1⟩
end Go.Proofs.Ytmagbjbanpgmhaa.CtD

namespace Go.Proofs.Ytmagbjbanpgmhaa.CtD
open Go Go.CT CtF CtR

theorem boolsC_snoc (ws : List Bool) (b : Bool) : boolsC (ws ++ [b]) = boolsC ws ++ [.v (.bool b)] := by simp [boolsC, BC]

end Go.Proofs.Ytmagbjbanpgmhaa.CtD
