/- Contracts of functions of the program, one behind the other, as plain data: what each call returns and which blocks it leaves. -/
import Derived.Test.YtclgjiffpijgmaaFacts
import Derived.Test.YtclgjiffpijgmaaVa
import Derived.Test.YtclgjiffpijgmaaVb
import Derived.Test.YtclgjiffpijgmaaRa
import Derived.Test.YtclgjiffpijgmaaRb
import Derived.Test.YtclgjiffpijgmaaSa
import Derived.Test.YtclgjiffpijgmaaSb
import Derived.Test.YtclgjiffpijgmaaSc
import Derived.Test.YtclgjiffpijgmaaCtC
import Derived.Test.YtclgjiffpijgmaaVc
import Derived.Test.YtclgjiffpijgmaaRc
import Derived.Test.YtclgjiffpijgmaaDc
set_option linter.unusedVariables false
set_option linter.unusedSimpArgs false
namespace Go.Proofs.Ytclgjiffpijgmaa.CtD
open Go Go.CT CtF CtR

/-! Plain: a slice answers as the program does. -/
structure AgM (q : Nat → Bool) (nv : Nat) (m m' : Mm) : Prop where
  lv : m.vals.length = m'.vals.length
  la : m.arrays.length = m'.arrays.length
  val : ∀ i, i < nv → q i = true → m.vals[i]? = m'.vals[i]?
  arr : ∀ j, q (nv + j) = true → m.arrays[j]? = m'.arrays[j]?
theorem AgM.refl (q : Nat → Bool) (nv : Nat) (m : Mm) : AgM q nv m m := ⟨rfl, rfl, fun _ _ _ => rfl, fun _ _ => rfl⟩
theorem AgM.setV {q : Nat → Bool} {nv : Nat} {m m' : Mm} (h : AgM q nv m m') (t x : Int) : AgM q nv (setV m t x) (setV m' t x) := by
  refine ⟨by simp [CtR.setV, h.lv], h.la, fun i hi hq => ?_, h.arr⟩
  have := h.val i hi hq
  have := h.lv
  simp only [CtR.setV, List.getElem?_set]
  split <;> simp_all
theorem AgM.setVl {q : Nat → Bool} {nv : Nat} {m m' : Mm} (h : AgM q nv m m') {t : Int} (x : Int) (ht : q t.toNat = false) : AgM q nv (CtR.setV m t x) m' := by
  refine ⟨by simp [CtR.setV, h.lv], h.la, fun i hi hq => ?_, h.arr⟩
  have h1 := h.val i hi hq
  simp only [CtR.setV, List.getElem?_set]
  by_cases e : t.toNat = i
  · subst e; rw [ht] at hq; cases hq
  · simp [e, h1]
theorem AgM.setA {q : Nat → Bool} {nv : Nat} {m m' : Mm} (h : AgM q nv m m') {t : Int} (i x : Int) (ht : q (nv + t.toNat) = true) : AgM q nv (CtR.setA m t i x) (CtR.setA m' t i x) := by
  have ha : arrAt m t = arrAt m' t := by unfold arrAt; rw [List.getD_eq_getElem?_getD, List.getD_eq_getElem?_getD, h.arr _ ht]
  refine ⟨h.lv, by simp [CtR.setA, h.la], h.val, fun j hq => ?_⟩
  have h1 := h.arr j hq
  have h2 := h.la
  simp only [CtR.setA, List.getElem?_set, ha]
  split <;> simp_all
theorem AgM.setAl {q : Nat → Bool} {nv : Nat} {m m' : Mm} (h : AgM q nv m m') {t : Int} (i x : Int) (ht : q (nv + t.toNat) = false) : AgM q nv (CtR.setA m t i x) m' := by
  refine ⟨h.lv, by simp [CtR.setA, h.la], h.val, fun j hq => ?_⟩
  have h1 := h.arr j hq
  simp only [CtR.setA, List.getElem?_set]
  by_cases e : t.toNat = j
  · subst e; rw [ht] at hq; cases hq
  · simp [e, h1]
theorem subB_fold {q : Nat → Bool} : ∀ (l : List Nat) (a : Nat), subB (l.foldl (fun a b => a ||| b) a) q ↔ subB a q ∧ ∀ x ∈ l, subB x q
  | [], a => by simp
  | x :: r, a => by
    rw [List.foldl_cons, subB_fold r, subB_or]
    simp only [List.mem_cons, forall_eq_or_imp]
    exact and_assoc
theorem evalE_ag {p : Pg} {q : Nat → Bool} {m m' : Mm} (h : AgM q p.vars.length m m') : ∀ (d : Nat) (e : Ex), CtR.shape p d e = true → subB (occN p.vars.length d e) q → evalE m d e = evalE m' d e
  | 0, e, _, _ => rfl
  | d + 1, .mk k v ks, hs, hq => by
    obtain ⟨g1, g2, g3⟩ := shape_succ hs
    obtain ⟨hl3, hla, hv0, hv1⟩ := fits_len g1
    simp only [occN] at hq
    obtain ⟨q1, q2⟩ := (subB_fold _ _).1 hq
    have hk : ∀ x ∈ ks, evalE m d x = evalE m' d x := fun x hx => evalE_ag h d x (g2 x hx) (q2 _ (List.mem_map.2 ⟨x, hx, rfl⟩))
    have e1 : (ks.map fun e => (evalE m d e).1) = ks.map fun e => (evalE m' d e).1 := List.map_congr_left fun x hx => by rw [hk x hx]
    have e2 : (ks.map fun e => (evalE m d e).2) = ks.map fun e => (evalE m' d e).2 := List.map_congr_left fun x hx => by rw [hk x hx]
    simp only [evalE, e1, e2]
    by_cases k1 : k = 1
    · simp [k1]
    by_cases k2 : k = 2
    · subst k2
      have hlim : v < p.vars.length := by simpa [limit] using hv1
      have hqv : q v.toNat = true := q1 _ (by simp [occB, Nat.testBit_two_pow])
      have := h.val v.toNat (by omega) hqv
      simp only [Int.reduceEq, if_false, if_true, nth, List.getD_eq_getElem?_getD, this]
    by_cases k3 : k = 3
    · subst k3
      have hqv : q (p.vars.length + v.toNat) = true := q1 _ (by simp [occB, Nat.testBit_two_pow])
      have := h.arr v.toNat hqv
      have ha : arrAt m v = arrAt m' v := by unfold arrAt; rw [List.getD_eq_getElem?_getD, List.getD_eq_getElem?_getD, this]
      simp only [Int.reduceEq, if_false, if_true, ha]
    · simp only [k1, k2, k3, if_false]
theorem evalX_ag {p : Pg} {q : Nat → Bool} {m m' : Mm} (h : AgM q p.vars.length m m') {e : Ex} (hs : CtR.shape p 5 e = true ∨ e = .mk 0 0 []) (hq : subB (occN p.vars.length 5 e) q) : evalE m 5 e = evalE m' 5 e := by
  rcases hs with hs | rfl
  · exact evalE_ag h 5 e hs hq
  · simp [evalE]
/-- The releases of a trace. -/
def rel (l : List Ev) : List Ev := l.filter fun e => e.kind == 4
theorem rel_app (a b : List Ev) : rel (a ++ b) = rel a ++ rel b := by simp [rel]
theorem rel_nil : rel [] = [] := rfl
theorem evalE_no4 (m : Mm) : ∀ (d : Nat) (e : Ex), ∀ x ∈ (evalE m d e).2, x.kind ≠ 4
  | 0, e => by simp [evalE]
  | d + 1, .mk k v ks => by
    have hf : ∀ x ∈ (ks.map fun e => (evalE m d e).2).flatten, x.kind ≠ 4 := fun x hx => by
      obtain ⟨l, hl, hxl⟩ := List.mem_flatten.1 hx
      obtain ⟨e, _, rfl⟩ := List.mem_map.1 hl
      exact evalE_no4 m d e x hxl
    intro x hx
    simp only [evalE] at hx
    split at hx
    · cases hx
    split at hx
    · cases hx
    split at hx
    · rcases List.mem_append.1 hx with hx | hx
      · exact hf x hx
      · rw [List.mem_singleton.1 hx]; simp
    split at hx
    · exact hf x hx
    · exact hf x hx
theorem rel_eval (m : Mm) (d : Nat) (e : Ex) : rel (evalE m d e).2 = [] := by
  unfold rel
  rw [List.filter_eq_nil_iff]
  intro x hx
  simpa using evalE_no4 m d e x hx
theorem iter_ag {q : Nat → Bool} {nv : Nat} {f f' : Mm → Mm × List Ev} (hf : ∀ m m', AgM q nv m m' → AgM q nv (f m).1 (f' m').1 ∧ rel (f m).2 = rel (f' m').2) : ∀ (n : Nat) (m m' : Mm), AgM q nv m m' →
    AgM q nv (iterR f n m).1 (iterR f' n m').1 ∧ rel (iterR f n m).2 = rel (iterR f' n m').2
  | 0, m, m', h => ⟨h, rfl⟩
  | n + 1, m, m', h => by
    have h1 := iter_ag hf n m m' h
    have h2 := hf _ _ h1.1
    simp only [iterR, rel_app]
    exact ⟨h2.1, by rw [h1.2, h2.2]⟩
theorem iter_nil : ∀ (n : Nat) (m : Mm), iterR (fun m => (m, [])) n m = (m, [])
  | 0, m => rfl
  | n + 1, m => by simp [iterR, iter_nil n m]
def runO (d : Nat) (m : Mm) : Option St1 → Mm × List Ev
  | none => (m, [])
  | some s => runS d m s
theorem addS_sub {q r : Nat → Bool} {nv : Nat} {f : List St1 → List St1} {g : List St1 → Nat} : ∀ (l : List St1) (a : Nat), subB (l.foldl (addS q nv f g) a) r ↔ subB a r ∧ ∀ s ∈ l, subB (addS q nv f g 0 s) r
  | [], a => by simp
  | s :: t, a => by
    rw [List.foldl_cons, addS_sub t, addS_or, subB_or]
    simp only [List.mem_cons, forall_eq_or_imp]
    exact and_assoc
theorem len0 {l : List St1} (h : ¬ 0 < l.length) : l = [] := List.eq_nil_of_length_eq_zero (by omega)
theorem run_cut (p : Pg) (q : Nat → Bool) : ∀ (d : Nat) (l : List St1), (∀ s ∈ l, stmtOK p d s = true) → subB (setN q p.vars.length d l) q → ∀ m m', AgM q p.vars.length m m' →
    AgM q p.vars.length (foldR (runS d) m l).1 (foldR (runS d) m' (cutL q p.vars.length d l)).1 ∧ rel (foldR (runS d) m l).2 = rel (foldR (runS d) m' (cutL q p.vars.length d l)).2
  | 0, l, hok, _, m, m', h => by
    cases l with
    | nil => exact ⟨h, rfl⟩
    | cons a r => have := hok a (by simp); simp [stmtOK] at this
  | d + 1, l, hok, hq, m, m', h => by
    have hone : ∀ s, stmtOK p (d + 1) s = true → subB (addS q p.vars.length (cutL q p.vars.length d) (setN q p.vars.length d) 0 s) q → ∀ m m', AgM q p.vars.length m m' →
        AgM q p.vars.length (runS (d + 1) m s).1 (runO (d + 1) m' (cutS q p.vars.length (cutL q p.vars.length d) s)).1 ∧ rel (runS (d + 1) m s).2 = rel (runO (d + 1) m' (cutS q p.vars.length (cutL q p.vars.length d) s)).2 := fun s hs hq m m' h => by
      obtain ⟨k, t, ix, v, c, b, e⟩ := s
      have hbe := stmtOK_succ hs
      have hex := exprs_of hs
      have hk := head_kind hbe.1
      by_cases h5 : k = 5
      · subst h5
        have ec : cutS q p.vars.length (cutL q p.vars.length d) (.mk 5 t ix v c b e) = some (.mk 5 t ix v c b e) := by simp [cutS]
        simp only [addS, ec, Option.isSome_some, if_true] at hq
        have hv := evalX_ag h hex.2 (subB_or.1 (subB_or.1 hq).2).1
        rw [ec]
        simp only [runO, runS, hv, Int.reduceEq, if_false, if_true, and_true]
        exact h.setV _ _
      by_cases h1 : k = 1
      · subst h1
        cases hqt : q t.toNat with
        | true =>
          have ec : cutS q p.vars.length (cutL q p.vars.length d) (.mk 1 t ix v c b e) = some (.mk 1 t ix v c b e) := by simp [cutS, hqt]
          simp only [addS, ec, Option.isSome_some, if_true] at hq
          have hv := evalX_ag h hex.2 (subB_or.1 (subB_or.1 hq).2).1
          rw [ec]
          simp only [runO, runS, hv, Int.reduceEq, if_false, if_true, and_true]
          exact h.setV _ _
        | false =>
          have ec : cutS q p.vars.length (cutL q p.vars.length d) (.mk 1 t ix v c b e) = none := by simp [cutS, hqt]
          rw [ec]
          simp only [runO, runS, Int.reduceEq, if_false, if_true, rel_eval, rel_nil, and_true]
          exact h.setVl _ hqt
      by_cases h2 : k = 2
      · subst h2
        cases hqt : q (p.vars.length + t.toNat) with
        | true =>
          have ec : cutS q p.vars.length (cutL q p.vars.length d) (.mk 2 t ix v c b e) = some (.mk 2 t ix v c b e) := by simp [cutS, hqt]
          simp only [addS, ec, Option.isSome_some, if_true] at hq
          have hv := evalX_ag h hex.2 (subB_or.1 (subB_or.1 hq).2).1
          have hi := evalX_ag h hex.1 (subB_or.1 (subB_or.1 hq).2).2
          rw [ec]
          simp only [runO, runS, hv, hi, Int.reduceEq, if_false, if_true, and_true]
          exact h.setA _ _ hqt
        | false =>
          have ec : cutS q p.vars.length (cutL q p.vars.length d) (.mk 2 t ix v c b e) = none := by simp [cutS, hqt]
          rw [ec]
          simp only [runO, runS, Int.reduceEq, if_false, if_true, rel_app, rel_eval, rel_nil, List.nil_append]
          exact ⟨h.setAl _ _ hqt, rfl⟩
      have hkk : k = 3 ∨ k = 4 := by omega
      have hqs : subB (setN q p.vars.length d b) q ∧ subB (setN q p.vars.length d e) q := by
        simp only [addS, show ¬ (k = 5 ∨ k = 1 ∨ k = 2) by omega, if_false] at hq
        split at hq
        · exact subB_or.1 (subB_or.1 (subB_or.1 hq).1).2
        · exact subB_or.1 (subB_or.1 hq).2
      have fb := fun m m' h => run_cut p q d b hbe.2.1 hqs.1 m m' h
      have fe := fun m m' h => run_cut p q d e hbe.2.2 hqs.2 m m' h
      have ecs : cutS q p.vars.length (cutL q p.vars.length d) (.mk k t ix v c b e) = if 0 < (cutL q p.vars.length d b).length + (cutL q p.vars.length d e).length then some (.mk k t ix v c (cutL q p.vars.length d b) (cutL q p.vars.length d e)) else none := by simp [cutS, h5, h1, h2]
      by_cases hp : 0 < (cutL q p.vars.length d b).length + (cutL q p.vars.length d e).length
      · rw [if_pos hp] at ecs
        rw [ecs]
        simp only [addS, ecs, Option.isSome_some, if_true] at hq
        have hv := evalX_ag h hex.2 (subB_or.1 (subB_or.1 hq).2).1
        rcases hkk with rfl | rfl
        · simp only [runO, runS, hv, Int.reduceEq, if_false]
          by_cases hne : (evalE m' 5 v).1 ≠ 0
          · simp only [if_pos hne, rel_app]
            have := fb m m' h
            exact ⟨this.1, by rw [this.2]⟩
          · simp only [if_neg hne, rel_app]
            have := fe m m' h
            exact ⟨this.1, by rw [this.2]⟩
        · simp only [runO, runS, if_true]
          exact iter_ag fb _ m m' h
      · rw [if_neg hp] at ecs
        have hb0 := len0 (show ¬ 0 < (cutL q p.vars.length d b).length by omega)
        have he0 := len0 (show ¬ 0 < (cutL q p.vars.length d e).length by omega)
        rw [hb0] at fb
        rw [he0] at fe
        rw [ecs]
        rcases hkk with rfl | rfl
        · simp only [runO, runS, Int.reduceEq, if_false]
          by_cases hne : (evalE m 5 v).1 ≠ 0
          · simp only [if_pos hne, rel_app, rel_eval, rel_nil]
            have := fb m m' h
            simp only [foldR, rel_nil] at this
            exact ⟨this.1, by rw [this.2]; rfl⟩
          · simp only [if_neg hne, rel_app, rel_eval, rel_nil]
            have := fe m m' h
            simp only [foldR, rel_nil] at this
            exact ⟨this.1, by rw [this.2]; rfl⟩
        · simp only [runO, runS, if_true]
          have := iter_ag (f' := fun m => (m, [])) (fun m m' h => fb m m' h) c.toNat m m' h
          rw [iter_nil] at this
          exact this
    simp only [setN] at hq
    have hq2 := ((addS_sub l 0).1 hq).2
    clear hq
    induction l generalizing m m' with
    | nil => exact ⟨h, rfl⟩
    | cons s r ih =>
      have h1 := hone s (hok s (by simp)) (hq2 s (by simp)) m m' h
      simp only [cutL, List.filterMap_cons]
      have ih2 := fun m m' h => ih (fun x hx => hok x (by simp [hx])) m m' h (fun x hx => hq2 x (by simp [hx]))
      simp only [cutL] at ih2
      cases hc : cutS q p.vars.length (cutL q p.vars.length d) s with
      | none =>
        rw [hc] at h1
        simp only [runO, rel_nil] at h1
        have h2 := ih2 _ _ h1.1
        simp only [foldR, rel_app, h1.2, List.nil_append]
        exact h2
      | some s' =>
        rw [hc] at h1
        simp only [runO] at h1
        have h2 := ih2 _ _ h1.1
        simp only [foldR, rel_app, h1.2, h2.2, and_true]
        exact h2.1

/-- With fewer cells, a slice of a slice is the slice. -/
theorem cut_cut {p : Pg} {q q' : Nat → Bool} (hle : leB q' q) : ∀ (d : Nat) (l : List St1), (∀ s ∈ l, stmtOK p d s = true) →
    cutL q' p.vars.length d (cutL q p.vars.length d l) = cutL q' p.vars.length d l ∧ setN q' p.vars.length d (cutL q p.vars.length d l) = setN q' p.vars.length d l
  | 0, l, _ => ⟨rfl, rfl⟩
  | d + 1, l, hok => by
    have hone : ∀ s, stmtOK p (d + 1) s = true → (match cutS q p.vars.length (cutL q p.vars.length d) s with
        | none => cutS q' p.vars.length (cutL q' p.vars.length d) s = none ∧ addS q' p.vars.length (cutL q' p.vars.length d) (setN q' p.vars.length d) 0 s = 0
        | some s' => cutS q' p.vars.length (cutL q' p.vars.length d) s' = cutS q' p.vars.length (cutL q' p.vars.length d) s ∧ addS q' p.vars.length (cutL q' p.vars.length d) (setN q' p.vars.length d) 0 s' = addS q' p.vars.length (cutL q' p.vars.length d) (setN q' p.vars.length d) 0 s) := fun s hs => by
      obtain ⟨k, t, ix, v, c, b, e⟩ := s
      have hbe := stmtOK_succ hs
      by_cases h5 : k = 5
      · have ec : cutS q p.vars.length (cutL q p.vars.length d) (.mk k t ix v c b e) = some (.mk k t ix v c b e) := by simp [cutS, h5]
        rw [ec]; exact ⟨rfl, rfl⟩
      by_cases h1 : k = 1
      · cases hqt : q t.toNat with
        | true =>
          have ec : cutS q p.vars.length (cutL q p.vars.length d) (.mk k t ix v c b e) = some (.mk k t ix v c b e) := by simp [cutS, h1, hqt]
          rw [ec]; exact ⟨rfl, rfl⟩
        | false =>
          have hq2 : q' t.toNat = false := by
            cases hx : q' t.toNat with
            | false => rfl
            | true => rw [hle _ hx] at hqt; cases hqt
          have ec : cutS q p.vars.length (cutL q p.vars.length d) (.mk k t ix v c b e) = none := by simp [cutS, h1, hqt]
          have ec2 : cutS q' p.vars.length (cutL q' p.vars.length d) (.mk k t ix v c b e) = none := by simp [cutS, h1, hq2]
          rw [ec]
          refine ⟨ec2, ?_⟩
          simp only [addS]
          rw [ec2]
          simp [h1]
      by_cases h2 : k = 2
      · cases hqt : q (p.vars.length + t.toNat) with
        | true =>
          have ec : cutS q p.vars.length (cutL q p.vars.length d) (.mk k t ix v c b e) = some (.mk k t ix v c b e) := by simp [cutS, h2, hqt]
          rw [ec]; exact ⟨rfl, rfl⟩
        | false =>
          have hq2 : q' (p.vars.length + t.toNat) = false := by
            cases hx : q' (p.vars.length + t.toNat) with
            | false => rfl
            | true => rw [hle _ hx] at hqt; cases hqt
          have ec : cutS q p.vars.length (cutL q p.vars.length d) (.mk k t ix v c b e) = none := by simp [cutS, h2, hqt]
          have ec2 : cutS q' p.vars.length (cutL q' p.vars.length d) (.mk k t ix v c b e) = none := by simp [cutS, h2, hq2]
          rw [ec]
          refine ⟨ec2, ?_⟩
          simp only [addS]
          rw [ec2]
          simp [h2]
      have ib := cut_cut hle d b hbe.2.1
      have ie := cut_cut hle d e hbe.2.2
      have ecs : ∀ q (b e : List St1), cutS q p.vars.length (cutL q p.vars.length d) (.mk k t ix v c b e) = if 0 < (cutL q p.vars.length d b).length + (cutL q p.vars.length d e).length then some (.mk k t ix v c (cutL q p.vars.length d b) (cutL q p.vars.length d e)) else none := fun q b e => by simp [cutS, h5, h1, h2]
      have eas : ∀ (b e : List St1), addS q' p.vars.length (cutL q' p.vars.length d) (setN q' p.vars.length d) 0 (.mk k t ix v c b e) = if 0 < (cutL q' p.vars.length d b).length + (cutL q' p.vars.length d e).length then (setN q' p.vars.length d b ||| setN q' p.vars.length d e) ||| (occN p.vars.length 5 v ||| occN p.vars.length 5 ix) else setN q' p.vars.length d b ||| setN q' p.vars.length d e := fun b e => by
        simp only [addS, ecs, show ¬ (k = 5 ∨ k = 1 ∨ k = 2) by omega, if_false, Nat.zero_or]
        split <;> simp
      rw [ecs q b e]
      by_cases hp : 0 < (cutL q p.vars.length d b).length + (cutL q p.vars.length d e).length
      · rw [if_pos hp]
        simp only [ecs, eas, ib.1, ib.2, ie.1, ie.2, and_self]
      · rw [if_neg hp]
        have hb0 := len0 (show ¬ 0 < (cutL q p.vars.length d b).length by omega)
        have he0 := len0 (show ¬ 0 < (cutL q p.vars.length d e).length by omega)
        rw [hb0] at ib
        rw [he0] at ie
        have z1 : setN q' p.vars.length d [] = 0 := by cases d <;> simp [setN]
        simp only [ecs, eas, ← ib.1, ← ib.2, ← ie.1, ← ie.2, cutL_nil, z1]
        simp
    have gen : ∀ (l : List St1), (∀ s ∈ l, stmtOK p (d + 1) s = true) → ∀ a, (l.filterMap (cutS q p.vars.length (cutL q p.vars.length d))).filterMap (cutS q' p.vars.length (cutL q' p.vars.length d)) = l.filterMap (cutS q' p.vars.length (cutL q' p.vars.length d)) ∧
        (l.filterMap (cutS q p.vars.length (cutL q p.vars.length d))).foldl (addS q' p.vars.length (cutL q' p.vars.length d) (setN q' p.vars.length d)) a = l.foldl (addS q' p.vars.length (cutL q' p.vars.length d) (setN q' p.vars.length d)) a := fun l => by
      induction l with
      | nil => intro _ a; exact ⟨rfl, rfl⟩
      | cons s r ih =>
        intro hok a
        have h1 := hone s (hok s (by simp))
        have ih := ih fun x hx => hok x (by simp [hx])
        rw [List.filterMap_cons]
        cases hc : cutS q p.vars.length (cutL q p.vars.length d) s with
        | none =>
          rw [hc] at h1
          simp only at h1
          simp only [List.filterMap_cons, List.foldl_cons, h1.1]
          rw [addS_or, h1.2, Nat.or_zero]
          exact ih a
        | some s' =>
          rw [hc] at h1
          simp only at h1
          simp only [List.filterMap_cons, List.foldl_cons, h1.1]
          rw [addS_or _ _ _ _ a s', addS_or _ _ _ _ a s, h1.2]
          refine ⟨?_, (ih _).2⟩
          rw [(ih 0).1]
    simp only [cutL, setN]
    exact gen l hok 0
/-- The least closed set of a program is the least closed set of its slice. -/
theorem Least.slice {p : Pg} {ws : List Bool} {q : Nat → Bool} (hok : ∀ s ∈ p.body, stmtOK p 5 s = true) (h : Least p ws q) : Least (slP p q) ws q := by
  refine ⟨h.want, ?_, fun q' h1 h2 i hi => ?_⟩
  · have := (cut_cut (q := q) (q' := q) (fun i h => h) 5 p.body hok).2
    simp only [slP]
    rw [this]
    exact h.closed
  · have hle : leB (fun i => q' i && q i) q := fun i h => by simp only [Bool.and_eq_true] at h; exact h.2
    have hle' : leB (fun i => q' i && q i) q' := fun i h => by simp only [Bool.and_eq_true] at h; exact h.1
    have e := (cut_cut hle 5 p.body hok).2
    simp only [slP] at h2
    have m1 := (cut_mono p.vars.length hle' 5 (cutL q p.vars.length 5 p.body)).2 q' h2
    rw [e] at m1
    have m2 := (cut_mono p.vars.length hle 5 p.body).2 q h.closed
    have := h.least (fun i => q' i && q i) (fun i hw => by simp only [Bool.and_eq_true]; exact ⟨h1 i hw, h.want i hw⟩) (fun i hb => by simp only [Bool.and_eq_true]; exact ⟨m1 i hb, m2 i hb⟩) i hi
    simp only [Bool.and_eq_true] at this
    exact this.1
theorem slP_slP {p : Pg} {q : Nat → Bool} (hok : ∀ s ∈ p.body, stmtOK p 5 s = true) : slP (slP p q) q = slP p q := by
  have := (cut_cut (q := q) (q' := q) (fun i h => h) 5 p.body hok).1
  unfold slP
  simp only
  rw [this]
end Go.Proofs.Ytclgjiffpijgmaa.CtD

namespace Go.Proofs.Ytclgjiffpijgmaa.CtD
open Go Go.CT CtF CtR

theorem dcMono {P : Program} {F : FuncId} {args : List D} {h : List (Option (List C))} {R R' : D → List (Option (List C)) → Prop} (hD : DC P F args h R) (hR : ∀ d h', R d h' → R' d h') : DC P F args h R' :=
  fun I w s vs H hv => (hD I w s vs H hv).mono fun e w' ⟨v, I', s', d, h', he, hr, k⟩ => ⟨v, I', s', d, h', he, hR d h' hr, k⟩
/-- With every cell wanted, a slice's run ends in the same memory. -/
theorem all_same {p : Pg} {q : Nat → Bool} (hok : progOK p = true) (hc : subB (setN q p.vars.length 5 p.body) q) (hq : ∀ i, i < p.vars.length + p.arrays.length → q i = true) (m : Mm) :
    (runP (slP p q) m).2.2 = (runP p m).2.2 ∧ memSame (runP p m).1 (runP (slP p q) m).1 = true := by
  have h2 := slP_ok q hok
  cases hm : memOK p.vars p.arrays m with
  | false =>
    have e1 : (progOK p && memOK p.vars p.arrays m) = false := by rw [hm]; simp
    have e2 : (progOK (slP p q) && memOK (slP p q).vars (slP p q).arrays m) = false := by
      rw [show memOK (slP p q).vars (slP p q).arrays m = memOK p.vars p.arrays m from rfl, hm]; simp
    rw [runP_false e1, runP_false e2]
    exact ⟨rfl, memSame_refl _⟩
  | true =>
    rw [runP_of hok hm, runP_of h2 (show memOK (slP p q).vars (slP p q).arrays m = true from hm)]
    have hr := (run_cut p q 5 p.body (body_of hok).1 hc m m (AgM.refl _ _ _)).1
    have ho := memFits_of (p := p) (by rw [hok, runP_out hok hm]; rfl)
    refine ⟨rfl, ?_⟩
    simp only [runL] at ho ⊢
    have ebd : (slP p q).body = cutL q p.vars.length 5 p.body := rfl
    rw [ebd]
    generalize (foldR (runS 5) m p.body).1 = x at *
    generalize (foldR (runS 5) m (cutL q p.vars.length 5 p.body)).1 = y at *
    have e1 : x.vals = y.vals := List.ext_getElem? fun i => by
      rcases Nat.lt_or_ge i p.vars.length with h | h
      · exact hr.val i h (hq i (by omega))
      · have := ho.nv
        have := hr.lv
        rw [List.getElem?_eq_none (by omega), List.getElem?_eq_none (by omega)]
    have e2 : x.arrays = y.arrays := List.ext_getElem? fun i => by
      rcases Nat.lt_or_ge i p.arrays.length with h | h
      · exact hr.arr i (hq _ (by omega))
      · have := ho.na
        have := hr.la
        rw [List.getElem?_eq_none (by omega), List.getElem?_eq_none (by omega)]
    simp [memSame, e1, e2]
theorem rep_getD (n i : Nat) (h : i < n) : (List.replicate n true).getD i false = true := by
  rw [List.getD_eq_getElem?_getD, List.getElem?_replicate, if_pos h]; rfl
theorem sameBody {p : Pg} (h : progOK p = true) : ∀ s ∈ p.body, DC Try.prog 122 [.agg s.cells, .agg s.cells] [] (fun r h => r = DB true ∧ h = []) := fun s hs => by
  have hb := body_of h
  refine sameStmt p 5 s (hb.1 s hs) ?_
  have : ∀ l : List St1, s ∈ l → tsize 5 s ≤ (l.map (tsize 5)).sum := fun l => by
    induction l with
    | nil => simp
    | cons a r ih =>
      intro hs
      simp only [List.map_cons, List.sum_cons]
      rcases List.mem_cons.1 hs with rfl | hs
      · omega
      · have := ih hs; omega
  have h1 := this p.body hs
  have h2 : (p.body.map (tsize 5)).sum = lsize 5 p.body := rfl
  omega

set_option maxHeartbeats 16000000 in
set_option maxRecDepth 10000 in
theorem lawST (bs : List Int) (hb : Fits .u8 bs) (hl : bs.length ≤ mx) : DC Try.prog 9 [bytesD bs] [] (fun d h => d = DB true ∧ h = []) := by
  have hmx := mx_eq
  have hds := drawSliceProgram bs hb hl
  have hdm := drawRunProgram bs hb hl
  unfold bytesD
  unfold bytesD at hdm hds
  have ret : ∀ hp : Hp, RetOb 0 (fun d h => d = DB true ∧ h = []) (DB true) hp := fun hp => RetOb.plain (d := DB true) ⟨rfl, rfl⟩ rfl
  have hps0 := programSame ⟨[], [], []⟩ (by simp) (by simp) (by simp) (by simp)
  generalize hRR : (fun (d : D) (h : List (Option (List C))) => d = DB true ∧ h = []) = R at ret ⊢
  by_cases hbig : 1048576 < bs.length
  · have hz : ((1048576 : Int) < (bs.length : Int)) = True := eq_true (by omega)
    refine dc_of_go Try.func9 rfl (by simp) ?_
    refine drv_sound (n := 12) (rs := _) Try.func9 mo rfl none _ _ ?_
    simp (maxSteps := 10000000) (maxDischargeDepth := 300) only [go_sem, hz]
    iterate 2 ((try (refine drv_sound (n := 12) (rs := _) Try.func9 mo rfl _ _ _ ?_; simp (maxSteps := 10000000) (maxDischargeDepth := 300) only [go_sem, hz])); (try ((with_reducible refine And.intro ?_ ?_) <;> (repeat' with_reducible apply And.intro) <;> (try first | omega | (simp only [InK]; omega) | (intro k e; cases e; rfl) | (intro hguard; exact ⟨hguard, by simp only [InK]; omega⟩) | kernel_rfl))))
    exact ret _
  have hz : ((1048576 : Int) < (bs.length : Int)) = False := eq_false (by omega)
  refine dc_of_go Try.func9 rfl (by simp) ?_
  refine drv_sound (n := 12) (rs := _) Try.func9 mo rfl none _ _ ?_
  simp (maxSteps := 10000000) (maxDischargeDepth := 300) only [go_sem, hz]
  iterate 2 ((try (refine drv_sound (n := 12) (rs := _) Try.func9 mo rfl _ _ _ ?_; simp (maxSteps := 10000000) (maxDischargeDepth := 300) only [go_sem, hz])); (try ((with_reducible refine And.intro ?_ ?_) <;> (repeat' with_reducible apply And.intro) <;> (try first | omega | (simp only [InK]; omega) | (intro k e; cases e; rfl) | (intro hguard; exact ⟨hguard, by simp only [InK]; omega⟩) | kernel_rfl))))
  refine XK.callG [] hds ok32 (fun i' x h => by simp at h) (hbT ()) (fun d h' ⟨_, _, _, _, _, e⟩ => by subst e; simp) ?_
  rintro _ _ ⟨p, ws, rfl, hp, hw, rfl⟩ _
  have hv1 : p.vars.length ≤ 13 := hp.nv
  have ha1 : p.arrays.length ≤ 2 := hp.na
  have hI := fun ws h => sliceProgI p ws (by omega) (by omega) h
  have hS := sliceProgS p ws (by omega) (by omega) (by have := hp.sz 5; omega) (by omega)
  have hrI := fun m => runProgI p m (by omega) (by omega)
  cases hq : (progOK p && decide (ws.length = p.vars.length + p.arrays.length)) with
  | false =>
    have hI := hI ws (by omega)
    have cv : ∀ F, DC Try.prog F [.agg p.cells, .c (boolsD ws)] [] (sliR p ws) → DC Try.prog F [.agg p.cells, .c (boolsD ws)] [] (fun r h => r = .tup [.agg (Pg.cells ⟨[], [], []⟩), DB false] ∧ h = []) := fun F h0 => dcMono h0 fun r h ⟨h1, h2⟩ => by
      rcases h2 with ⟨hc, _⟩ | ⟨_, e⟩
      · rw [hq] at hc; cases hc
      · exact ⟨e, h1⟩
    have hI := cv _ hI
    have hS := cv _ hS
    clear cv
    obtain ⟨vs, ar, bd⟩ := p
    iterate 3 ((try (refine drv_sound (n := 12) (rs := _) Try.func9 mo rfl _ _ _ ?_; simp (maxSteps := 10000000) (maxDischargeDepth := 300) only [go_sem, Pg.cells, Ex.cells, St1.cells, isI, I64, Ex.cellsL_length, Ex.cellsL_get, St1.cellsL_length, St1.cellsL_get, boolsD])); (try ((with_reducible refine And.intro ?_ ?_) <;> (repeat' with_reducible apply And.intro) <;> (try first | omega | (simp only [InK]; omega) | (intro k e; cases e; rfl) | (intro hguard; exact ⟨hguard, by simp only [InK]; omega⟩) | kernel_rfl))))
    refine XK.callG [] hI ok33 (fun i' x h => by simp at h) (hbT ()) (fun d h' ⟨_, e⟩ => by subst e; simp) ?_
    rintro _ _ ⟨rfl, rfl⟩ _
    iterate 3 ((try (refine drv_sound (n := 12) (rs := _) Try.func9 mo rfl _ _ _ ?_; simp (maxSteps := 10000000) (maxDischargeDepth := 300) only [go_sem, Pg.cells, Ex.cells, St1.cells, isI, I64, Ex.cellsL_length, Ex.cellsL_get, St1.cellsL_length, St1.cellsL_get, boolsD])); (try ((with_reducible refine And.intro ?_ ?_) <;> (repeat' with_reducible apply And.intro) <;> (try first | omega | (simp only [InK]; omega) | (intro k e; cases e; rfl) | (intro hguard; exact ⟨hguard, by simp only [InK]; omega⟩) | kernel_rfl))))
    refine XK.callG [] hS ok34 (fun i' x h => by simp at h) (hbT ()) (fun d h' ⟨_, e⟩ => by subst e; simp) ?_
    rintro _ _ ⟨rfl, rfl⟩ _
    iterate 3 ((try (refine drv_sound (n := 12) (rs := _) Try.func9 mo rfl _ _ _ ?_; simp (maxSteps := 10000000) (maxDischargeDepth := 300) only [go_sem, Pg.cells, Ex.cells, St1.cells, isI, I64, Ex.cellsL_length, Ex.cellsL_get, St1.cellsL_length, St1.cellsL_get, boolsD])); (try ((with_reducible refine And.intro ?_ ?_) <;> (repeat' with_reducible apply And.intro) <;> (try first | omega | (simp only [InK]; omega) | (intro k e; cases e; rfl) | (intro hguard; exact ⟨hguard, by simp only [InK]; omega⟩) | kernel_rfl))))
    refine XK.gplain 3 false true (fun _ => hps0) ok35 ?_ (hbT ())
    iterate 4 ((try (refine drv_sound (n := 12) (rs := _) Try.func9 mo rfl _ _ _ ?_; simp (maxSteps := 10000000) (maxDischargeDepth := 300) only [go_sem, Pg.cells, Ex.cells, St1.cells, isI, I64, Ex.cellsL_length, Ex.cellsL_get, St1.cellsL_length, St1.cellsL_get, boolsD])); (try ((with_reducible refine And.intro ?_ ?_) <;> (repeat' with_reducible apply And.intro) <;> (try first | omega | (simp only [InK]; omega) | (intro k e; cases e; rfl) | (intro hguard; exact ⟨hguard, by simp only [InK]; omega⟩) | kernel_rfl))))
    refine XK.gplain 3 true true (fun _ => hps0) ok35 ?_ (hbT ())
    iterate 3 ((try (refine drv_sound (n := 12) (rs := _) Try.func9 mo rfl _ _ _ ?_; simp (maxSteps := 10000000) (maxDischargeDepth := 300) only [go_sem, Pg.cells, Ex.cells, St1.cells, isI, I64, Ex.cellsL_length, Ex.cellsL_get, St1.cellsL_length, St1.cellsL_get, boolsD])); (try ((with_reducible refine And.intro ?_ ?_) <;> (repeat' with_reducible apply And.intro) <;> (try first | omega | (simp only [InK]; omega) | (intro k e; cases e; rfl) | (intro hguard; exact ⟨hguard, by simp only [InK]; omega⟩) | kernel_rfl))))
    exact ret _
  | true =>
    have hq2 : progOK p = true ∧ ws.length = p.vars.length + p.arrays.length := by simpa using hq
    obtain ⟨hok, hwl⟩ := hq2
    have hIw := hI ws (by omega)
    have hIr := hI (List.replicate ws.length true) (by simp; omega)
    have hc3 : (progOK p && decide ((List.replicate ws.length true).length = p.vars.length + p.arrays.length)) = true := by rw [List.length_replicate]; exact hq
    have cv : ∀ F ws, (progOK p && decide (ws.length = p.vars.length + p.arrays.length)) = true → DC Try.prog F [.agg p.cells, .c (boolsD ws)] [] (sliR p ws) → DC Try.prog F [.agg p.cells, .c (boolsD ws)] [] (fun r h => (∃ q, Least p ws q ∧ r = .tup [.agg (Pg.cells (slP p q)), DB true]) ∧ h = []) := fun F ws hq h0 => dcMono h0 fun r h ⟨h1, h2⟩ => by
      rcases h2 with ⟨_, q, hl, e⟩ | ⟨hc, _⟩
      · exact ⟨⟨q, hl, e⟩, h1⟩
      · rw [hq] at hc; cases hc
    have hIw := cv _ _ hq hIw
    have hIr := cv _ _ hc3 hIr
    have hS := cv _ _ hq hS
    clear cv
    have hslok := fun q => slP_ok (p := p) q hok
    have hsl := fun q => sliceProgI (slP p q) ws (show p.vars.length ≤ mx by omega) (show p.arrays.length ≤ mx by omega) (by omega)
    have hsd : ∀ q, Least p ws q → DC Try.prog 33 [.agg (slP p q).cells, .c (boolsD ws)] [] (fun r h => r = .tup [.agg (slP p q).cells, DB true] ∧ h = []) := fun q hl => by
      have hc : (progOK (slP p q) && decide (ws.length = (slP p q).vars.length + (slP p q).arrays.length)) = true := by rw [hslok q, Bool.true_and]; exact decide_eq_true hwl
      refine dcMono (hsl q) fun r h ⟨h1, h2⟩ => ?_
      rcases h2 with ⟨_, q2, hl2, e⟩ | ⟨hn, _⟩
      · have := hl2.eq (hl.slice (body_of hok).1)
        subst this
        rw [slP_slP (body_of hok).1] at e
        exact ⟨e, h1⟩
      · rw [hc] at hn; cases hn
    have hps := fun q => programSame (slP p q) (show p.vars.length ≤ mx by omega) (show p.arrays.length ≤ mx by omega) (by have h1 := (body_of (hslok q)).2; have h2 : lsize 5 (slP p q).body = _ := lsize_subs 4 (slP p q).body; omega) (sameBody (hslok q))
    have hall := fun q h1 h2 m => all_same (p := p) (q := q) hok h1 h2 m
    have hrS := fun q m => runProgI (slP p q) m (show p.vars.length ≤ mx by omega) (show p.arrays.length ≤ mx by omega)
    have hsm := fun m => runP_sm p m
    have hclo := fun q => @Least.closed p (List.replicate ws.length true) q
    have hwan := fun q => @Least.want p (List.replicate ws.length true) q
    have heq := fun q q' => @Least.eq p ws q q'
    have hv := hv1
    have ha := ha1
    clear hsl hslok hI hq hc3
    generalize hLw : Least p ws = Lw at *
    generalize hLr : Least p (List.replicate ws.length true) = Lr at *
    obtain ⟨vs, ar, bd⟩ := p
    have hslv : ∀ q, slP ⟨vs, ar, bd⟩ q = ⟨vs, ar, cutL q vs.length 5 bd⟩ := fun _ => rfl
    simp only [hslv] at *
    have hmx := mx_eq
    iterate 3 ((try (refine drv_sound (n := 12) (rs := _) Try.func9 mo rfl _ _ _ ?_; simp (maxSteps := 10000000) (maxDischargeDepth := 300) only [go_sem, Pg.cells, Ex.cells, St1.cells, isI, I64, Ex.cellsL_length, Ex.cellsL_get, St1.cellsL_length, St1.cellsL_get, boolsD])); (try ((with_reducible refine And.intro ?_ ?_) <;> (repeat' with_reducible apply And.intro) <;> (try first | omega | (simp only [InK]; omega) | (intro k e; cases e; rfl) | (intro hguard; exact ⟨hguard, by simp only [InK]; omega⟩) | kernel_rfl))))
    refine XK.callG [] hIw ok33 (fun i' x h => by simp at h) (hbT ()) (fun d h' ⟨_, e⟩ => by subst e; simp) ?_
    rintro _ _ ⟨⟨q, hLq, rfl⟩, rfl⟩ _
    iterate 3 ((try (refine drv_sound (n := 12) (rs := _) Try.func9 mo rfl _ _ _ ?_; simp (maxSteps := 10000000) (maxDischargeDepth := 300) only [go_sem, Pg.cells, Ex.cells, St1.cells, isI, I64, Ex.cellsL_length, Ex.cellsL_get, St1.cellsL_length, St1.cellsL_get, boolsD])); (try ((with_reducible refine And.intro ?_ ?_) <;> (repeat' with_reducible apply And.intro) <;> (try first | omega | (simp only [InK]; omega) | (intro k e; cases e; rfl) | (intro hguard; exact ⟨hguard, by simp only [InK]; omega⟩) | kernel_rfl))))
    refine XK.callG [] hS ok34 (fun i' x h => by simp at h) (hbT ()) (fun d h' ⟨_, e⟩ => by subst e; simp) ?_
    rintro _ _ ⟨⟨q', hLq', rfl⟩, rfl⟩ _
    obtain rfl := heq _ _ hLq hLq'
    have hps := hps q
    have hsd := hsd q hLq
    generalize cutL q vs.length 5 bd = cb at *
    iterate 3 ((try (refine drv_sound (n := 12) (rs := _) Try.func9 mo rfl _ _ _ ?_; simp (maxSteps := 10000000) (maxDischargeDepth := 300) only [go_sem, Pg.cells, Ex.cells, St1.cells, isI, I64, Ex.cellsL_length, Ex.cellsL_get, St1.cellsL_length, St1.cellsL_get, boolsD])); (try ((with_reducible refine And.intro ?_ ?_) <;> (repeat' with_reducible apply And.intro) <;> (try first | omega | (simp only [InK]; omega) | (intro k e; cases e; rfl) | (intro hguard; exact ⟨hguard, by simp only [InK]; omega⟩) | kernel_rfl))))
    refine XK.gplain 3 false true (fun _ => hps) ok35 ?_ (hbT ())
    iterate 4 ((try (refine drv_sound (n := 12) (rs := _) Try.func9 mo rfl _ _ _ ?_; simp (maxSteps := 10000000) (maxDischargeDepth := 300) only [go_sem, Pg.cells, Ex.cells, St1.cells, isI, I64, Ex.cellsL_length, Ex.cellsL_get, St1.cellsL_length, St1.cellsL_get, boolsD, bne_self_eq_false, Bool.not_false])); (try ((with_reducible refine And.intro ?_ ?_) <;> (repeat' with_reducible apply And.intro) <;> (try first | omega | (simp only [InK]; omega) | (intro k e; cases e; rfl) | (intro hguard; exact ⟨hguard, by simp only [InK]; omega⟩) | kernel_rfl))))
    refine XK.callG [] hsd ok33 (fun i' x h => by simp at h) (hbT ()) (fun d h' ⟨_, e⟩ => by subst e; simp) ?_
    rintro _ _ ⟨rfl, rfl⟩ _
    iterate 3 ((try (refine drv_sound (n := 12) (rs := _) Try.func9 mo rfl _ _ _ ?_; simp (maxSteps := 10000000) (maxDischargeDepth := 300) only [go_sem, Pg.cells, Ex.cells, St1.cells, isI, I64, Ex.cellsL_length, Ex.cellsL_get, St1.cellsL_length, St1.cellsL_get, boolsD])); (try ((with_reducible refine And.intro ?_ ?_) <;> (repeat' with_reducible apply And.intro) <;> (try first | omega | (simp only [InK]; omega) | (intro k e; cases e; rfl) | (intro hguard; exact ⟨hguard, by simp only [InK]; omega⟩) | kernel_rfl))))
    refine Go.loopQ (fun i : Nat => [(0, .c (.isl 1 (bs.map fun n => [.v (.int .u8 n)]))), (3, .c (.ptr 576 0)), (4, .c (boolsD ws)), (5, .c (.ptr 1152 0)), (9, .c (.ptr 3136 0)), (10, DB true), (11, .c (.msl 67 1 0 i)), (12, DI .i64 i)])
      (fun i => [(576, some (Pg.cells ⟨vs, ar, bd⟩)), (1152, some (Pg.cells ⟨vs, ar, cb⟩)), (3136, some (Pg.cells ⟨vs, ar, cb⟩)), (67, some (boolsC (List.replicate i true)))]) 8192 (fun i => i ≤ ws.length) (fun i => ws.length - i) ?_ 0 (fun j => if j = 67 then some 3328 else some j) [] _ (Nat.zero_le _) ?_
    · intro i hi again
      have hbl : (boolsC (List.replicate i true)).length = i := by rw [boolsC_len, List.length_replicate]
      have hrs : boolsC (List.replicate (i + 1) true) = boolsC (List.replicate i true) ++ [.v (.bool true)] := by rw [List.replicate_succ', boolsC_snoc]
      rcases Nat.lt_or_ge i ws.length with hlt | hge
      · refine drv_sound (n := 12) (rs := _) Try.func9 mo rfl none _ _ ?_
        simp (maxSteps := 10000000) (maxDischargeDepth := 300) only [go_sem, Pg.cells, Ex.cells, St1.cells, isI, I64, Ex.cellsL_length, Ex.cellsL_get, St1.cellsL_length, St1.cellsL_get, boolsD, List.length_map, hlt]
        iterate 3 ((try (refine drv_sound (n := 12) (rs := _) Try.func9 mo rfl _ _ _ ?_; simp (maxSteps := 10000000) (maxDischargeDepth := 300) only [go_sem, Pg.cells, Ex.cells, St1.cells, isI, I64, Ex.cellsL_length, Ex.cellsL_get, St1.cellsL_length, St1.cellsL_get, boolsD, List.length_map, hlt, hbl])); (try ((with_reducible refine And.intro ?_ ?_) <;> (repeat' with_reducible apply And.intro) <;> (try first | omega | (simp only [InK]; omega) | (intro k e; cases e; rfl) | (intro hguard; exact ⟨hguard, by simp only [InK]; omega⟩) | kernel_rfl))))
        refine again (i + 1) (fun j => if j = 67 then some 8576 else some j) [] _ hlt (by omega) ?_
        simp (maxSteps := 10000000) (maxDischargeDepth := 300) only [go_sem, TmOK, DM, DMs, CM, CMs, forall_eq, exists_eq_left, Mq, HpOK, LowOK, Pg.cells, Ex.cells, St1.cells, isI, I64, Ex.cellsL_length, Ex.cellsL_get, St1.cellsL_length, St1.cellsL_get, boolsD, hrs]
        simp
        exact CMs.kf (kf_app (boolsC_kf _) (by simp [kf]))
      · have hn2 : ¬ i < ws.length := by omega
        obtain rfl : i = ws.length := by omega
        clear again hi hge
        have hel : (List.replicate ws.length true).length = ws.length := List.length_replicate
        have hget := fun i h => rep_getD ws.length i h
        generalize hev : List.replicate ws.length true = ev at *
        refine drv_sound (n := 12) (rs := _) Try.func9 mo rfl none _ _ ?_
        simp (maxSteps := 10000000) (maxDischargeDepth := 300) only [go_sem, Pg.cells, Ex.cells, St1.cells, isI, I64, Ex.cellsL_length, Ex.cellsL_get, St1.cellsL_length, St1.cellsL_get, boolsD, List.length_map, hn2]
        iterate 1 ((try (refine drv_sound (n := 12) (rs := _) Try.func9 mo rfl _ _ _ ?_; simp (maxSteps := 10000000) (maxDischargeDepth := 300) only [go_sem, Pg.cells, Ex.cells, St1.cells, isI, I64, Ex.cellsL_length, Ex.cellsL_get, St1.cellsL_length, St1.cellsL_get, boolsD, List.length_map, hn2])); (try ((with_reducible refine And.intro ?_ ?_) <;> (repeat' with_reducible apply And.intro) <;> (try first | omega | (simp only [InK]; omega) | (intro k e; cases e; rfl) | (intro hguard; exact ⟨hguard, by simp only [InK]; omega⟩) | kernel_rfl))))
        refine XK.callG [] hdm ok28 (fun i' x h => by simp at h) (hbT ()) (fun d h' ⟨_, _, _, _, _, e⟩ => by subst e; simp) ?_
        rintro _ _ ⟨⟨vs2, ar2, bd2⟩, m, rfl, hp2, hm2, rfl⟩ _
        refine XK.freezeAll 67 1 (boolsC ev) (ev.map fun b => [BC b]) ?_ (by simp [appUp, upsFrom, rkey, wkey, hOf, upd]) (wkL_bools ev) (fun x hx => by obtain ⟨b, _, rfl⟩ := List.mem_map.1 hx; rfl) (fun x hx c hc => by obtain ⟨b, _, rfl⟩ := List.mem_map.1 hx; rw [List.mem_singleton.1 hc]; rfl)
        have hrI := hrI m
        have hsm := hsm m
        have hall := fun q h1 h2 => hall q h1 h2 m
        have hrS := fun q => hrS q m
        obtain ⟨va, arr⟩ := m
        iterate 4 ((try (refine drv_sound (n := 12) (rs := _) Try.func9 mo rfl _ _ _ ?_; simp (maxSteps := 10000000) (maxDischargeDepth := 300) only [go_sem, Pg.cells, Ex.cells, St1.cells, isI, I64, Ex.cellsL_length, Ex.cellsL_get, St1.cellsL_length, St1.cellsL_get, boolsD, List.length_map, hel, beqR, Mm.cells])); (try ((with_reducible refine And.intro ?_ ?_) <;> (repeat' with_reducible apply And.intro) <;> (try first | omega | (simp only [InK]; omega) | (intro k e; cases e; rfl) | (intro hguard; exact ⟨hguard, by simp only [InK]; omega⟩) | kernel_rfl))))
        refine XK.callG [] hIr ok33 (fun i' x h => by simp at h) (hbT ()) (fun d h' ⟨_, e⟩ => by subst e; simp) ?_
        rintro _ _ ⟨⟨q3, hL3, rfl⟩, rfl⟩ _
        have hall := hall q3 (hclo q3 hL3) (fun i hi => hwan q3 hL3 i (hget i (by omega)))
        have hrS := hrS q3
        generalize cutL q3 vs.length 5 bd = cc at *
        generalize runP ⟨vs, ar, bd⟩ ⟨va, arr⟩ = r1 at *
        generalize runP ⟨vs, ar, cc⟩ ⟨va, arr⟩ = r2 at *
        obtain ⟨⟨vx, ax⟩, t1, o1⟩ := r1
        obtain ⟨⟨vy, ay⟩, t2, o2⟩ := r2
        simp only at hall hsm
        obtain ⟨rfl, hms⟩ := hall
        have hmem := memorySame ⟨vx, ax⟩ ⟨vy, ay⟩ (by simp only; omega) (by simp only; omega) (fun a h => by have := hsm.2.2.1 a h; omega)
        rw [hms] at hmem
        iterate 3 ((try (refine drv_sound (n := 12) (rs := _) Try.func9 mo rfl _ _ _ ?_; simp (maxSteps := 10000000) (maxDischargeDepth := 300) only [go_sem, Pg.cells, Ex.cells, St1.cells, isI, I64, Ex.cellsL_length, Ex.cellsL_get, St1.cellsL_length, St1.cellsL_get, Mm.cells])); (try ((with_reducible refine And.intro ?_ ?_) <;> (repeat' with_reducible apply And.intro) <;> (try first | omega | (simp only [InK]; omega) | (intro k e; cases e; rfl) | (intro hguard; exact ⟨hguard, by simp only [InK]; omega⟩) | kernel_rfl))))
        refine XK.callG [] hrI ok22 (fun i' x h => by simp at h) (hbT ()) (fun d h' ⟨_, e⟩ => by subst e; simp) ?_
        rintro _ _ ⟨rfl, rfl⟩ _
        iterate 3 ((try (refine drv_sound (n := 12) (rs := _) Try.func9 mo rfl _ _ _ ?_; simp (maxSteps := 10000000) (maxDischargeDepth := 300) only [go_sem, Pg.cells, Ex.cells, St1.cells, isI, I64, Ex.cellsL_length, Ex.cellsL_get, St1.cellsL_length, St1.cellsL_get, Mm.cells, trD])); (try ((with_reducible refine And.intro ?_ ?_) <;> (repeat' with_reducible apply And.intro) <;> (try first | omega | (simp only [InK]; omega) | (intro k e; cases e; rfl) | (intro hguard; exact ⟨hguard, by simp only [InK]; omega⟩) | kernel_rfl))))
        refine XK.callG [] hrS ok22 (fun i' x h => by simp at h) (hbT ()) (fun d h' ⟨_, e⟩ => by subst e; simp) ?_
        rintro _ _ ⟨rfl, rfl⟩ _
        iterate 3 ((try (refine drv_sound (n := 12) (rs := _) Try.func9 mo rfl _ _ _ ?_; simp (maxSteps := 10000000) (maxDischargeDepth := 300) only [go_sem, Pg.cells, Ex.cells, St1.cells, isI, I64, Ex.cellsL_length, Ex.cellsL_get, St1.cellsL_length, St1.cellsL_get, Mm.cells, trD])); (try ((with_reducible refine And.intro ?_ ?_) <;> (repeat' with_reducible apply And.intro) <;> (try first | omega | (simp only [InK]; omega) | (intro k e; cases e; rfl) | (intro hguard; exact ⟨hguard, by simp only [InK]; omega⟩) | kernel_rfl))))
        refine XK.gplain 1 true true (fun _ => hps) ok35 ?_ (hbT ())
        have hoo : (o2 == o2) = true := by cases o2 <;> rfl
        iterate 2 ((try (refine drv_sound (n := 12) (rs := _) Try.func9 mo rfl _ _ _ ?_; simp (maxSteps := 10000000) (maxDischargeDepth := 300) only [go_sem, Pg.cells, Ex.cells, St1.cells, isI, I64, Ex.cellsL_length, Ex.cellsL_get, St1.cellsL_length, St1.cellsL_get, Mm.cells, trD, hoo])); (try ((with_reducible refine And.intro ?_ ?_) <;> (repeat' with_reducible apply And.intro) <;> (try first | omega | (simp only [InK]; omega) | (intro k e; cases e; rfl) | (intro hguard; exact ⟨hguard, by simp only [InK]; omega⟩) | kernel_rfl))))
        refine XK.gplain 14 true true (fun _ => hmem) ok30 ?_ (hbT ())
        iterate 2 ((try (refine drv_sound (n := 12) (rs := _) Try.func9 mo rfl _ _ _ ?_; simp (maxSteps := 10000000) (maxDischargeDepth := 300) only [go_sem, Pg.cells, Ex.cells, St1.cells, isI, I64, Ex.cellsL_length, Ex.cellsL_get, St1.cellsL_length, St1.cellsL_get, Mm.cells, trD, hoo])); (try ((with_reducible refine And.intro ?_ ?_) <;> (repeat' with_reducible apply And.intro) <;> (try first | omega | (simp only [InK]; omega) | (intro k e; cases e; rfl) | (intro hguard; exact ⟨hguard, by simp only [InK]; omega⟩) | kernel_rfl))))
        exact ret _
    · simp (maxSteps := 10000000) (maxDischargeDepth := 300) only [go_sem, TmOK, DM, DMs, CM, CMs, forall_eq, exists_eq_left, Mq, HpOK, LowOK, Pg.cells, Ex.cells, St1.cells, isI, I64, Ex.cellsL_length, Ex.cellsL_get, St1.cellsL_length, St1.cellsL_get, boolsD]
      simp [boolsC, CMs]
end Go.Proofs.Ytclgjiffpijgmaa.CtD
