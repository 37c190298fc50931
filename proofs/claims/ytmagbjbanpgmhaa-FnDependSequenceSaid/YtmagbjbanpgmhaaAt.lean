/- Contracts of functions of the program, one behind the other, as plain data: what each call returns and which blocks it leaves. -/
import Derived.Test.YtmagbjbanpgmhaaFacts
import Derived.Test.YtmagbjbanpgmhaaAk
import Derived.Test.YtmagbjbanpgmhaaAl
import Derived.Test.YtmagbjbanpgmhaaAn
import Derived.Test.YtmagbjbanpgmhaaAo
import Derived.Test.YtmagbjbanpgmhaaAs
import Derived.Test.YtmagbjbanpgmhaaAj
import Derived.Test.YtmagbjbanpgmhaaAq
import Derived.Test.YtmagbjbanpgmhaaAm
set_option linter.unusedVariables false
set_option linter.unusedSimpArgs false
set_option maxHeartbeats 16000000
set_option maxRecDepth 100000
namespace Go.Proofs.Ytmagbjbanpgmhaa.CtD
open Go Go.CT CtF CtR

/-! Plain: a slice answers as the program does. -/
structure AgM (q : Nat → Bool) (nv : Nat) (m m' : Mm) : Prop where
  lv : m.vals.length = m'.vals.length
  la : m.arrays.length = m'.arrays.length
  val : ∀ i, i < nv → q i = true → m.vals[i]? = m'.vals[i]?
  arr : ∀ j, q (nv + j) = true → m.arrays[j]? = m'.arrays[j]?
theorem AgM.refl (q : Nat → Bool) (nv : Nat) (m : Mm) : AgM q nv m m := ⟨rfl, rfl, fun _ _ _ => rfl, fun _ _ => rfl⟩
theorem AgM.setV {q : Nat → Bool} {nv : Nat} {m m' : Mm} (h : AgM q nv m m') (t x : Int) : AgM q nv (setV m t x) (setV m' t x) := by
  refine ⟨by simp [CtR.setV, h.lv], h.la, fun i hi hq => ?_, h.arr⟩
  have := h.val i hi hq
  have := h.lv
  simp only [CtR.setV, List.getElem?_set]
  split <;> simp_all
theorem AgM.setA {q : Nat → Bool} {nv : Nat} {m m' : Mm} (h : AgM q nv m m') {t : Int} (i x : Int) (ht : q (nv + t.toNat) = true) : AgM q nv (CtR.setA m t i x) (CtR.setA m' t i x) := by
  have ha : arrAt m t = arrAt m' t := by unfold arrAt; rw [List.getD_eq_getElem?_getD, List.getD_eq_getElem?_getD, h.arr _ ht]
  refine ⟨h.lv, by simp [CtR.setA, h.la], h.val, fun j hq => ?_⟩
  have h1 := h.arr j hq
  have h2 := h.la
  simp only [CtR.setA, List.getElem?_set, ha]
  split <;> simp_all
/-- The releases of a trace. -/
def rel (l : List Ev) : List Ev := l.filter fun e => e.kind == 4
theorem rel_app (a b : List Ev) : rel (a ++ b) = rel a ++ rel b := by simp [rel]
theorem len0 {l : List St1} (h : ¬ 0 < l.length) : l = [] := List.eq_nil_of_length_eq_zero (by omega)
/-- With fewer cells, a slice of a slice is the slice. -/
theorem cut_cut {p : Pg} {q q' : Nat → Bool} (hle : leB q' q) : ∀ (d : Nat) (l : List St1), (∀ s ∈ l, stmtOK p d s = true) →
    cutL q' p.vars.length d (cutL q p.vars.length d l) = cutL q' p.vars.length d l ∧ setN q' p.vars.length d (cutL q p.vars.length d l) = setN q' p.vars.length d l
  | 0, l, _ => ⟨rfl, rfl⟩
  | d + 1, l, hok => by
    have hone : ∀ s, stmtOK p (d + 1) s = true → (match cutS q p.vars.length (cutL q p.vars.length d) s with
        | none => cutS q' p.vars.length (cutL q' p.vars.length d) s = none ∧ addS q' p.vars.length (cutL q' p.vars.length d) (setN q' p.vars.length d) 0 s = 0
        | some s' => cutS q' p.vars.length (cutL q' p.vars.length d) s' = cutS q' p.vars.length (cutL q' p.vars.length d) s ∧ addS q' p.vars.length (cutL q' p.vars.length d) (setN q' p.vars.length d) 0 s' = addS q' p.vars.length (cutL q' p.vars.length d) (setN q' p.vars.length d) 0 s) := fun s hs => by
      obtain ⟨k, t, ix, v, c, b, e⟩ := s
      have hbe := stmtOK_succ hs
      by_cases h5 : k = 5
      · have ec : cutS q p.vars.length (cutL q p.vars.length d) (.mk k t ix v c b e) = some (.mk k t ix v c b e) := by simp [cutS, h5]
        rw [ec]; exact ⟨rfl, rfl⟩
      by_cases h1 : k = 1
      · cases hqt : q t.toNat with
        | true =>
          have ec : cutS q p.vars.length (cutL q p.vars.length d) (.mk k t ix v c b e) = some (.mk k t ix v c b e) := by simp [cutS, h1, hqt]
          rw [ec]; exact ⟨rfl, rfl⟩
        | false =>
          have hq2 : q' t.toNat = false := by
            cases hx : q' t.toNat with
            | false => rfl
            | true => rw [hle _ hx] at hqt; cases hqt
          have ec : cutS q p.vars.length (cutL q p.vars.length d) (.mk k t ix v c b e) = none := by simp [cutS, h1, hqt]
          have ec2 : cutS q' p.vars.length (cutL q' p.vars.length d) (.mk k t ix v c b e) = none := by simp [cutS, h1, hq2]
          rw [ec]
          refine ⟨ec2, ?_⟩
          simp only [addS]
          rw [ec2]
          simp [h1]
      by_cases h2 : k = 2
      · cases hqt : q (p.vars.length + t.toNat) with
        | true =>
          have ec : cutS q p.vars.length (cutL q p.vars.length d) (.mk k t ix v c b e) = some (.mk k t ix v c b e) := by simp [cutS, h2, hqt]
          rw [ec]; exact ⟨rfl, rfl⟩
        | false =>
          have hq2 : q' (p.vars.length + t.toNat) = false := by
            cases hx : q' (p.vars.length + t.toNat) with
            | false => rfl
            | true => rw [hle _ hx] at hqt; cases hqt
          have ec : cutS q p.vars.length (cutL q p.vars.length d) (.mk k t ix v c b e) = none := by simp [cutS, h2, hqt]
          have ec2 : cutS q' p.vars.length (cutL q' p.vars.length d) (.mk k t ix v c b e) = none := by simp [cutS, h2, hq2]
          rw [ec]
          refine ⟨ec2, ?_⟩
          simp only [addS]
          rw [ec2]
          simp [h2]
      have ib := cut_cut hle d b hbe.2.1
      have ie := cut_cut hle d e hbe.2.2
      have ecs : ∀ q (b e : List St1), cutS q p.vars.length (cutL q p.vars.length d) (.mk k t ix v c b e) = if 0 < (cutL q p.vars.length d b).length + (cutL q p.vars.length d e).length then some (.mk k t ix v c (cutL q p.vars.length d b) (cutL q p.vars.length d e)) else none := fun q b e => by simp [cutS, h5, h1, h2]
      have eas : ∀ (b e : List St1), addS q' p.vars.length (cutL q' p.vars.length d) (setN q' p.vars.length d) 0 (.mk k t ix v c b e) = if 0 < (cutL q' p.vars.length d b).length + (cutL q' p.vars.length d e).length then (setN q' p.vars.length d b ||| setN q' p.vars.length d e) ||| (occN p.vars.length 5 v ||| occN p.vars.length 5 ix) else setN q' p.vars.length d b ||| setN q' p.vars.length d e := fun b e => by
        simp only [addS, ecs, show ¬ (k = 5 ∨ k = 1 ∨ k = 2) by omega, if_false, Nat.zero_or]
        split <;> simp
      rw [ecs q b e]
      by_cases hp : 0 < (cutL q p.vars.length d b).length + (cutL q p.vars.length d e).length
      · rw [if_pos hp]
        simp only [ecs, eas, ib.1, ib.2, ie.1, ie.2, and_self]
      · rw [if_neg hp]
        have hb0 := len0 (show ¬ 0 < (cutL q p.vars.length d b).length by omega)
        have he0 := len0 (show ¬ 0 < (cutL q p.vars.length d e).length by omega)
        rw [hb0] at ib
        rw [he0] at ie
        have z1 : setN q' p.vars.length d [] = 0 := by cases d <;> simp [setN]
        simp only [ecs, eas, ← ib.1, ← ib.2, ← ie.1, ← ie.2, cutL_nil, z1]
        simp
    have gen : ∀ (l : List St1), (∀ s ∈ l, stmtOK p (d + 1) s = true) → ∀ a, (l.filterMap (cutS q p.vars.length (cutL q p.vars.length d))).filterMap (cutS q' p.vars.length (cutL q' p.vars.length d)) = l.filterMap (cutS q' p.vars.length (cutL q' p.vars.length d)) ∧
        (l.filterMap (cutS q p.vars.length (cutL q p.vars.length d))).foldl (addS q' p.vars.length (cutL q' p.vars.length d) (setN q' p.vars.length d)) a = l.foldl (addS q' p.vars.length (cutL q' p.vars.length d) (setN q' p.vars.length d)) a := fun l => by
      induction l with
      | nil => intro _ a; exact ⟨rfl, rfl⟩
      | cons s r ih =>
        intro hok a
        have h1 := hone s (hok s (by simp))
        have ih := ih fun x hx => hok x (by simp [hx])
        rw [List.filterMap_cons]
        cases hc : cutS q p.vars.length (cutL q p.vars.length d) s with
        | none =>
          rw [hc] at h1
          simp only at h1
          simp only [List.filterMap_cons, List.foldl_cons, h1.1]
          rw [addS_or, h1.2, Nat.or_zero]
          exact ih a
        | some s' =>
          rw [hc] at h1
          simp only at h1
          simp only [List.filterMap_cons, List.foldl_cons, h1.1]
          rw [addS_or _ _ _ _ a s', addS_or _ _ _ _ a s, h1.2]
          refine ⟨?_, (ih _).2⟩
          rw [(ih 0).1]
    simp only [cutL, setN]
    exact gen l hok 0
/-- The least closed set of a program is the least closed set of its slice. -/
theorem Least.slice {p : Pg} {ws : List Bool} {q : Nat → Bool} (hok : ∀ s ∈ p.body, stmtOK p 5 s = true) (h : Least p ws q) : Least (slP p q) ws q := by
  refine ⟨h.want, ?_, fun q' h1 h2 i hi => ?_⟩
  · have := (cut_cut (q := q) (q' := q) (fun i h => h) 5 p.body hok).2
    simp only [slP]
    rw [this]
    exact h.closed
  · have hle : leB (fun i => q' i && q i) q := fun i h => by simp only [Bool.and_eq_true] at h; exact h.2
    have hle' : leB (fun i => q' i && q i) q' := fun i h => by simp only [Bool.and_eq_true] at h; exact h.1
    have e := (cut_cut hle 5 p.body hok).2
    simp only [slP] at h2
    have m1 := (cut_mono p.vars.length hle' 5 (cutL q p.vars.length 5 p.body)).2 q' h2
    rw [e] at m1
    have m2 := (cut_mono p.vars.length hle 5 p.body).2 q h.closed
    have := h.least (fun i => q' i && q i) (fun i hw => by simp only [Bool.and_eq_true]; exact ⟨h1 i hw, h.want i hw⟩) (fun i hb => by simp only [Bool.and_eq_true]; exact ⟨m1 i hb, m2 i hb⟩) i hi
    simp only [Bool.and_eq_true] at this
    exact this.1
end Go.Proofs.Ytmagbjbanpgmhaa.CtD

namespace Go.Proofs.Ytmagbjbanpgmhaa.CtD
open Go Go.CT CtF CtR

theorem rel_snoc (a : List Ev) (e : Ev) : rel (a ++ [e]) = if e.kind == 4 then rel a ++ [e] else rel a := by
  rw [rel_app]; simp only [rel, List.filter_cons, List.filter_nil]; split <;> simp

theorem ctReleases (tr : List Ev) (hl : tr.length ≤ 2000000) : DC Try.prog 22 [.c (trD tr)] [] (fun r h => r = .c (trD (rel tr)) ∧ h = []) := by
  have hmx := mx_eq
  have hle : ∀ i, (rel (tr.take i)).length ≤ i := fun i => Nat.le_trans (List.length_filter_le _ _) (by simp; omega)
  generalize hR : (fun (r : D) (h : List (Option (List C))) => r = .c (trD (rel tr)) ∧ h = []) = R
  refine dcZ Try.func22 ?_
  simp (maxSteps := 9999999) only [go_sem, trD]
  iterate 2 ((try (refine drvZ Try.func22 ?_; simp (maxSteps := 9999999) only [go_sem, trD])); (try ((with_reducible refine And.intro ?_ ?_) <;> (repeat' with_reducible apply And.intro) <;> try exact sd)))
  refine Go.loopQ (fun i : Nat => [(0, .c (trD tr)), (3, .c (.msl 67 2 0 (rel (tr.take i)).length)), (4, DI .i64 i)]) (fun i => [(67, some (trC (rel (tr.take i))))])
    4096 (fun i => i ≤ tr.length) (fun i => tr.length - i) ?_ 0 (fun j => if j = 67 then some 64 else some j) [] _ (Nat.zero_le _) ?_
  · intro i hi again
    have hli := hle i
    rcases Nat.lt_or_ge i tr.length with hlt | hge
    · obtain ⟨⟨k, v⟩, hx⟩ : ∃ x, tr[i]? = some x := ⟨tr[i], by simp [hlt]⟩
      have hs : rel (tr.take (i + 1)) = if k == 4 then rel (tr.take i) ++ [⟨k, v⟩] else rel (tr.take i) := by rw [List.take_add_one, hx]; exact rel_snoc _ _
      have hel := trC_len (rel (tr.take i))
      generalize rel (tr.take i) = T at *
      by_cases hk : k = 4
      · subst hk
        simp only [beq_self_eq_true, if_true] at hs
        refine drvL Try.func22 ?_
        simp (maxSteps := 9999999) only [go_sem, trD, Ev.cells, I64, hx, hlt]
        iterate 4 ((try (refine drvZ Try.func22 ?_; simp (maxSteps := 9999999) only [go_sem, trD, Ev.cells, I64, hx, hlt, hel])); (try ((with_reducible refine And.intro ?_ ?_) <;> (repeat' with_reducible apply And.intro) <;> try exact sd)))
        refine again (i + 1) (fun j => if j = 67 then some 5120 else some j) [] _ hlt (by omega) ?_
        simp (maxSteps := 9999999) only [go_sem, TmOK, DM, DMs, CM, CMs, forall_eq, exists_eq_left, Mq, HpOK, LowOK, trD, hs, trC_snoc, List.length_append]
        simp
        exact CMs.kf (kf_app (trC_kf _) (by simp [kf]))
      · have e1 : (k == 4) = false := by simp [hk]
        simp only [e1, Bool.false_eq_true, if_false] at hs
        refine drvL Try.func22 ?_
        simp (maxSteps := 9999999) only [go_sem, trD, Ev.cells, I64, hx, hlt, e1, hk]
        iterate 4 ((try (refine drvZ Try.func22 ?_; simp (maxSteps := 9999999) only [go_sem, trD, Ev.cells, I64, hx, hlt, hel, e1, hk])); (try ((with_reducible refine And.intro ?_ ?_) <;> (repeat' with_reducible apply And.intro) <;> try exact sd)))
        refine again (i + 1) some [] _ hlt (by omega) ?_
        simp (maxSteps := 9999999) only [go_sem, TmOK, DM, DMs, CM, CMs, forall_eq, exists_eq_left, Mq, HpOK, LowOK, trD, hs]
        simp
        exact CMs.kf (trC_kf _)
    · have hn : ¬ i < tr.length := by omega
      obtain rfl : i = tr.length := by omega
      refine drvL Try.func22 ?_
      simp (maxSteps := 9999999) only [go_sem, trD, hn, List.take_length]
      iterate 2 ((try (refine drvZ Try.func22 ?_; simp (maxSteps := 9999999) only [go_sem, trD, hn, List.take_length])); (try ((with_reducible refine And.intro ?_ ?_) <;> (repeat' with_reducible apply And.intro) <;> try exact sd)))
      refine RetOb.ofQ (fun j => none) [67] (.c (trD (rel tr))) [] ?_ (by rw [← hR]; exact ⟨rfl, rfl⟩) (by simp)
      simp [enumL, hOf, DM, DMs, CM, CMs, HpOK, LowOK, upd, trD, trC, kf, Ev.cells]
  · simp (maxSteps := 9999999) only [go_sem, TmOK, DM, DMs, CM, CMs, forall_eq, exists_eq_left, Mq, HpOK, LowOK, trD]
    simp [trC, rel, CMs]
end Go.Proofs.Ytmagbjbanpgmhaa.CtD

namespace Go.Proofs.Ytmagbjbanpgmhaa.CtR
open Go Go.CT CtF

def subL (a b : Nat) : Bool := a ||| b == b
end Go.Proofs.Ytmagbjbanpgmhaa.CtR

namespace Go.Proofs.Ytmagbjbanpgmhaa.CtR
open Go Go.CT CtF

/-- Two memories agree where labels lack a bit. -/
structure LowM (β : Nat) (p : Pg) (m m' : Mm) : Prop where
  lv : m.vals.length = m'.vals.length
  la : m.arrays.length = m'.arrays.length
  val : ∀ (i : Nat) (x : Int), p.vars[i]? = some x → x.toNat.testBit β = false → m.vals[i]? = m'.vals[i]?
  arr : ∀ (i : Nat) (x : Int), p.arrays[i]? = some x → x.toNat.testBit β = false → m.arrays[i]? = m'.arrays[i]?
theorem LowM.refl (β : Nat) (p : Pg) (m : Mm) : LowM β p m m := ⟨rfl, rfl, fun _ _ _ _ => rfl, fun _ _ _ _ => rfl⟩
theorem LowM.symm {β : Nat} {p : Pg} {m m' : Mm} (h : LowM β p m m') : LowM β p m' m := ⟨h.lv.symm, h.la.symm, fun i x a b => (h.val i x a b).symm, fun i x a b => (h.arr i x a b).symm⟩
theorem LowM.trans {β : Nat} {p : Pg} {a b c : Mm} (h : LowM β p a b) (h' : LowM β p b c) : LowM β p a c :=
  ⟨h.lv.trans h'.lv, h.la.trans h'.la, fun i x u v => (h.val i x u v).trans (h'.val i x u v), fun i x u v => (h.arr i x u v).trans (h'.arr i x u v)⟩
theorem or_bit {β : Nat} : ∀ (l : List Nat) (a : Nat), (l.foldl (fun a b => a ||| b) a).testBit β = false ↔ a.testBit β = false ∧ ∀ x ∈ l, x.testBit β = false
  | [], a => by simp
  | b :: r, a => by rw [List.foldl_cons, or_bit r, Nat.testBit_or]; simp [and_assoc]
theorem nth_eq {l l' : List Int} {v : Int} (h : l[v.toNat]? = l'[v.toNat]?) : nth l v = nth l' v := by
  unfold nth; rw [List.getD_eq_getElem?_getD, List.getD_eq_getElem?_getD, h]
theorem arrAt_eq {m m' : Mm} {v : Int} (h : m.arrays[v.toNat]? = m'.arrays[v.toNat]?) : arrAt m v = arrAt m' v := by
  unfold arrAt; rw [List.getD_eq_getElem?_getD, List.getD_eq_getElem?_getD, h]

theorem LowM.setV {β : Nat} {p : Pg} {m m' : Mm} (h : LowM β p m m') {t x y : Int} (hx : x = y ∨ (nth p.vars t).toNat.testBit β = true) : LowM β p (setV m t x) (setV m' t y) where
  lv := by simp [CtR.setV, h.lv]
  la := h.la
  val := fun i z hz hb => by
    simp only [CtR.setV, List.getElem?_set, h.lv]
    by_cases e : t.toNat = i
    · subst e
      rcases hx with rfl | hx
      · simp [h.val _ z hz hb]
      · have : nth p.vars t = z := by unfold nth; rw [List.getD_eq_getElem?_getD, hz]; rfl
        rw [this, hb] at hx
        cases hx
    · simp only [e, if_false]; exact h.val i z hz hb
  arr := h.arr
theorem LowM.setA {β : Nat} {p : Pg} {m m' : Mm} (h : LowM β p m m') {t i j x y : Int} (hx : (i = j ∧ x = y) ∨ (nth p.arrays t).toNat.testBit β = true) : LowM β p (setA m t i x) (setA m' t j y) where
  lv := h.lv
  la := by simp [CtR.setA, h.la]
  val := h.val
  arr := fun k z hz hb => by
    simp only [CtR.setA, List.getElem?_set, h.la]
    by_cases e : t.toNat = k
    · subst e
      rcases hx with ⟨rfl, rfl⟩ | hx
      · rw [arrAt_eq (h.arr _ z hz hb), h.arr _ z hz hb]
      · have : nth p.arrays t = z := by unfold nth; rw [List.getD_eq_getElem?_getD, hz]; rfl
        rw [this, hb] at hx
        cases hx
    · simp only [e, if_false]; exact h.arr k z hz hb
theorem runS_4 (d : Nat) (m : Mm) (t : Int) (ix v : Ex) (c : Int) (b e : List St1) : runS (d + 1) m (.mk 4 t ix v c b e) = iterR (fun m => foldR (runS d) m b) c.toNat m := by simp [runS]
theorem runS_1 (d : Nat) (m : Mm) (t : Int) (ix v : Ex) (c : Int) (b e : List St1) : runS (d + 1) m (.mk 1 t ix v c b e) = (setV m t (evalE m 5 v).1, (evalE m 5 v).2) := by simp [runS]
theorem runS_5 (d : Nat) (m : Mm) (t : Int) (ix v : Ex) (c : Int) (b e : List St1) : runS (d + 1) m (.mk 5 t ix v c b e) = (setV m t (evalE m 5 v).1, (evalE m 5 v).2 ++ [⟨4, (evalE m 5 v).1⟩]) := by simp [runS]
theorem runS_2 (d : Nat) (m : Mm) (t : Int) (ix v : Ex) (c : Int) (b e : List St1) : runS (d + 1) m (.mk 2 t ix v c b e) = (setA m t ((evalE m 5 ix).1 % 4) (evalE m 5 v).1, (evalE m 5 v).2 ++ [⟨3, t * 4 + (evalE m 5 ix).1 % 4⟩]) := by simp [runS]
theorem runS_if {d : Nat} {m : Mm} {k t : Int} {ix v : Ex} {c : Int} {b e : List St1} (h4 : k ≠ 4) (h1 : k ≠ 1) (h5 : k ≠ 5) (h2 : k ≠ 2) :
    ((evalE m 5 v).1 ≠ 0 → runS (d + 1) m (.mk k t ix v c b e) = ((foldR (runS d) m b).1, (evalE m 5 v).2 ++ [⟨1, 1⟩] ++ (foldR (runS d) m b).2)) ∧
    ((evalE m 5 v).1 = 0 → runS (d + 1) m (.mk k t ix v c b e) = ((foldR (runS d) m e).1, (evalE m 5 v).2 ++ [⟨1, 0⟩] ++ (foldR (runS d) m e).2)) := by
  constructor <;> intro h <;> simp [runS, h4, h1, h5, h2, h]
theorem shapeV {p : Pg} {d : Nat} {k t : Int} {ix v : Ex} {c : Int} {b e : List St1} (h : stmtOK p (d + 1) (.mk k t ix v c b e) = true) : (k ≠ 4 → shape p 5 v = true) ∧ (k = 2 → shape p 5 ix = true) := by
  have hk := head_kind (stmtOK_succ h).1
  constructor
  · intro h4
    rcases hk with h | h | h | h
    · exact (right_shape h.2.2.2).1
    · exact (right_shape h.2.2.2.2.2).1
    · exact (right_shape h.2).1
    · exact absurd h.1 h4
  · intro h2
    rcases hk with h | h | h | h
    · exact absurd h.1 (by omega)
    · exact (right_shape h.2.2.2.1).1
    · exact absurd h.1 (by omega)
    · exact absurd h.1 (by omega)

end Go.Proofs.Ytmagbjbanpgmhaa.CtR

namespace Go.Proofs.Ytmagbjbanpgmhaa.CtR
open Go Go.CT CtF

/-- Two traces differ first in a release. -/
def DivT (t t' : List Ev) : Prop := ∃ (pre : List Ev) (v v' : Int) (r r' : List Ev), v ≠ v' ∧ t = pre ++ ⟨4, v⟩ :: r ∧ t' = pre ++ ⟨4, v'⟩ :: r'
theorem DivT.app {t t' : List Ev} (h : DivT t t') (a b : List Ev) : DivT (t ++ a) (t' ++ b) := by
  obtain ⟨pre, v, v', r, r', h1, rfl, rfl⟩ := h
  exact ⟨pre, v, v', r ++ a, r' ++ b, h1, by simp, by simp⟩
theorem DivT.pre {t t' : List Ev} (h : DivT t t') (a : List Ev) : DivT (a ++ t) (a ++ t') := by
  obtain ⟨pre, v, v', r, r', h1, rfl, rfl⟩ := h
  exact ⟨a ++ pre, v, v', r, r', h1, by simp, by simp⟩
def ResT (p : Pg) (x x' : Mm × List Ev) : Prop := (LowM 0 p x.1 x'.1 ∧ x.2 = x'.2) ∨ DivT x.2 x'.2
theorem ResT.seq {p : Pg} {x x' y y' : Mm × List Ev} (h : ResT p x x') (h2 : LowM 0 p x.1 x'.1 → ResT p y y') : ResT p (y.1, x.2 ++ y.2) (y'.1, x'.2 ++ y'.2) := by
  rcases h with ⟨h, e⟩ | h
  · rcases h2 h with ⟨g, e2⟩ | g
    · exact .inl ⟨g, by simp only [e, e2]⟩
    · exact .inr (by simp only [e]; exact g.pre _)
  · exact .inr (h.app _ _)
end Go.Proofs.Ytmagbjbanpgmhaa.CtR

namespace Go.Proofs.Ytmagbjbanpgmhaa.CtR
open Go Go.CT CtF

theorem le3 {a : Nat} (h : a ≤ 3) : a = 0 ∨ a = 1 ∨ a = 2 ∨ a = 3 := by omega
theorem subI (a b : Nat) (ha : a ≤ 3) (hb : b ≤ 3) : decide (((a ||| b : Nat) : Int) = (b : Int)) = subL a b := by
  rcases le3 ha with rfl | rfl | rfl | rfl <;> rcases le3 hb with rfl | rfl | rfl | rfl <;> decide
end Go.Proofs.Ytmagbjbanpgmhaa.CtR

namespace Go.Proofs.Ytmagbjbanpgmhaa.CtR
open Go Go.CT CtF

end Go.Proofs.Ytmagbjbanpgmhaa.CtR

namespace Go.Proofs.Ytmagbjbanpgmhaa.CtR
open Go Go.CT CtF

end Go.Proofs.Ytmagbjbanpgmhaa.CtR

namespace Go.Proofs.Ytmagbjbanpgmhaa.CtR
open Go Go.CT CtF

end Go.Proofs.Ytmagbjbanpgmhaa.CtR

namespace Go.Proofs.Ytmagbjbanpgmhaa.CtR
open Go Go.CT CtF

end Go.Proofs.Ytmagbjbanpgmhaa.CtR

namespace Go.Proofs.Ytmagbjbanpgmhaa.CtR
open Go Go.CT CtF

/-- Labels raised. -/
structure Up (l l' : List Int) : Prop where
  len : l'.length = l.length
  lab : lab3 l'
  le : ∀ (i : Nat) (x x' : Int), l[i]? = some x → l'[i]? = some x' → x ≤ x'
theorem Up.refl {l : List Int} (h : lab3 l) : Up l l := ⟨rfl, h, fun i x x' a b => by rw [a] at b; cases b; exact Int.le_refl _⟩
theorem Up.trans {a b c : List Int} (h : Up a b) (h' : Up b c) : Up a c :=
  ⟨h'.len.trans h.len, h'.lab, fun i x x' h1 h2 => by
    have hi : i < b.length := by have := (List.getElem?_eq_some_iff.1 h1).1; rw [h.len]; exact this
    exact Int.le_trans (h.le i x b[i] h1 (by simp [hi])) (h'.le i b[i] x' (by simp [hi]) h2)⟩
theorem Up.set {l l' : List Int} (h : Up l l') {i T n : Nat} (ht : l'[i]? = some (T : Int)) (hn : n ≤ 3) (hT : T ≤ n) : Up l (l'.set i (n : Int)) :=
  ⟨by rw [List.length_set, h.len], fun x hx => by
    rcases List.mem_or_eq_of_mem_set hx with h1 | rfl
    · exact h.lab x h1
    · omega, fun j x x' h1 h2 => by
    rw [List.getElem?_set] at h2
    by_cases e : i = j
    · subst e
      have hlt := (List.getElem?_eq_some_iff.1 ht).1
      rw [if_pos rfl, if_pos hlt] at h2
      cases h2
      have := h.le i x T h1 ht
      omega
    · rw [if_neg e] at h2; exact h.le j x x' h1 h2⟩
end Go.Proofs.Ytmagbjbanpgmhaa.CtR

namespace Go.Proofs.Ytmagbjbanpgmhaa.CtD
open Go Go.CT CtF CtR

structure LowV {α : Type} (β : Nat) (ls : List Int) (a a' : List α) : Prop where
  len : a'.length = a.length
  eq : ∀ (j : Nat) (x : Int), ls[j]? = some x → x.toNat.testBit β = false → a[j]? = a'[j]?
theorem LowV.refl {α : Type} (β : Nat) (ls : List Int) (a : List α) : LowV β ls a a := ⟨rfl, fun _ _ _ _ => rfl⟩
theorem LowV.set {α : Type} {β : Nat} {ls : List Int} {a a' : List α} (h : LowV β ls a a') {i : Nat} {x : Int} (hx : ls[i]? = some x) (hb : x.toNat.testBit β = true) (v : α) : LowV β ls a (a'.set i v) :=
  ⟨by rw [List.length_set, h.len], fun j y hy hf => by
    rw [List.getElem?_set]
    by_cases e : i = j
    · subst e; rw [hx] at hy; cases hy; rw [hb] at hf; cases hf
    · rw [if_neg e]; exact h.eq j y hy hf⟩
end Go.Proofs.Ytmagbjbanpgmhaa.CtD

namespace Go.Proofs.Ytmagbjbanpgmhaa.CtR
open Go Go.CT CtF

/-- The sets of all cells, of the trace and of the releases, as bits. -/
structure Dp where
  sets : List Nat
  tr : Nat
  re : Nat
abbrev orL (l : List Nat) : Nat := l.foldl (fun a b => a ||| b) 0
def dat (s : List Nat) (i : Nat) : Nat := s.getD i 0
def setE (nv : Nat) (s : List Nat) : Nat → Ex → Nat × Nat
  | 0, _ => (0, 0)
  | d + 1, .mk k v ks =>
    let o := orL (ks.map fun e => (setE nv s d e).1)
    let a := orL (ks.map fun e => (setE nv s d e).2)
    if k = 2 then (o ||| dat s v.toNat, a) else if k = 3 then (o ||| dat s (nv + v.toNat), a ||| o) else (o, a)
def unite (a b : List Nat) : List Nat := List.zipWith (fun x y => x ||| y) a b
def fixD (f : Dp → Dp) : Nat → Dp → Dp
  | 0, s => s
  | n + 1, s => if unite s.sets (f s).sets = s.sets then ⟨s.sets, (f s).tr, (f s).re⟩ else fixD f n ⟨unite s.sets (f s).sets, (f s).tr, (f s).re⟩
/-- Rounds enough for every fixed point. -/
def FU : Nat := 2 ^ 20
def depS (nv : Nat) : Nat → Nat → Dp → St1 → Dp
  | 0, _, s, _ => s
  | d + 1, c, s, .mk k t ix v cc b e =>
    if k = 4 then fixD (fun s => b.foldl (depS nv d c) s) FU s
    else
      let V := setE nv s.sets 5 v
      if k = 2 then
        let I := setE nv s.sets 5 ix
        ⟨s.sets.set (nv + t.toNat) (dat s.sets (nv + t.toNat) ||| (V.1 ||| I.1 ||| c)), s.tr ||| V.2 ||| I.2 ||| I.1, s.re⟩
      else if k = 3 then
        let y := b.foldl (depS nv d (c ||| V.1)) ⟨s.sets, s.tr ||| V.2 ||| V.1, s.re⟩
        let n := e.foldl (depS nv d (c ||| V.1)) ⟨s.sets, y.tr, y.re⟩
        ⟨unite y.sets n.sets, n.tr, n.re⟩
      else if k = 5 then ⟨s.sets.set t.toNat (V.1 ||| c), s.tr ||| V.2 ||| (V.1 ||| c), s.re ||| (V.1 ||| c)⟩
      else ⟨s.sets.set t.toNat (V.1 ||| c), s.tr ||| V.2, s.re⟩
def startD (w : Nat) : Dp := ⟨(List.range w).map fun i => 2 ^ i, 0, 0⟩
def depP (p : Pg) : Dp := p.body.foldl (depS p.vars.length 5 0) (startD (p.vars.length + p.arrays.length))

theorem depS_4 (nv d c : Nat) (s : Dp) (t : Int) (ix v : Ex) (cc : Int) (b e : List St1) : depS nv (d + 1) c s (.mk 4 t ix v cc b e) = fixD (fun s => b.foldl (depS nv d c) s) FU s := by simp [depS]
theorem depS_1 (nv d c : Nat) (s : Dp) (t : Int) (ix v : Ex) (cc : Int) (b e : List St1) : depS nv (d + 1) c s (.mk 1 t ix v cc b e) = ⟨s.sets.set t.toNat ((setE nv s.sets 5 v).1 ||| c), s.tr ||| (setE nv s.sets 5 v).2, s.re⟩ := by simp [depS]
theorem depS_5 (nv d c : Nat) (s : Dp) (t : Int) (ix v : Ex) (cc : Int) (b e : List St1) : depS nv (d + 1) c s (.mk 5 t ix v cc b e) = ⟨s.sets.set t.toNat ((setE nv s.sets 5 v).1 ||| c), s.tr ||| (setE nv s.sets 5 v).2 ||| ((setE nv s.sets 5 v).1 ||| c), s.re ||| ((setE nv s.sets 5 v).1 ||| c)⟩ := by simp [depS]
theorem depS_2 (nv d c : Nat) (s : Dp) (t : Int) (ix v : Ex) (cc : Int) (b e : List St1) : depS nv (d + 1) c s (.mk 2 t ix v cc b e) =
    ⟨s.sets.set (nv + t.toNat) (dat s.sets (nv + t.toNat) ||| ((setE nv s.sets 5 v).1 ||| (setE nv s.sets 5 ix).1 ||| c)), s.tr ||| (setE nv s.sets 5 v).2 ||| (setE nv s.sets 5 ix).2 ||| (setE nv s.sets 5 ix).1, s.re⟩ := by simp [depS]
def ifY (nv d c : Nat) (s : Dp) (v : Ex) (b : List St1) : Dp := b.foldl (depS nv d (c ||| (setE nv s.sets 5 v).1)) ⟨s.sets, s.tr ||| (setE nv s.sets 5 v).2 ||| (setE nv s.sets 5 v).1, s.re⟩
def ifN (nv d c : Nat) (s : Dp) (v : Ex) (b e : List St1) : Dp := e.foldl (depS nv d (c ||| (setE nv s.sets 5 v).1)) ⟨s.sets, (ifY nv d c s v b).tr, (ifY nv d c s v b).re⟩
theorem depS_3 (nv d c : Nat) (s : Dp) (t : Int) (ix v : Ex) (cc : Int) (b e : List St1) : depS nv (d + 1) c s (.mk 3 t ix v cc b e) =
    ⟨unite (ifY nv d c s v b).sets (ifN nv d c s v b e).sets, (ifN nv d c s v b e).tr, (ifN nv d c s v b e).re⟩ := by simp [depS, ifY, ifN]

/-- A cell's set has a bit. -/
def bt (k : Nat) (s : List Nat) (i : Nat) : Bool := (dat s i).testBit k
theorem dat_set (s : List Nat) (i j x : Nat) : dat (s.set i x) j = if i = j ∧ i < s.length then x else dat s j := by
  unfold dat
  rw [List.getD_eq_getElem?_getD, List.getD_eq_getElem?_getD, List.getElem?_set]
  by_cases h : i = j
  · subst h
    by_cases h2 : i < s.length <;> simp [h2]
  · simp [h]
theorem bt_set (k : Nat) (s : List Nat) (i j x : Nat) : bt k (s.set i x) j = if i = j ∧ i < s.length then x.testBit k else bt k s j := by
  unfold bt; rw [dat_set]; split <;> rfl
theorem unite_len {a b : List Nat} (h : b.length = a.length) : (unite a b).length = a.length := by simp [unite, h]
theorem dat_unite {a b : List Nat} (h : b.length = a.length) (i : Nat) : dat (unite a b) i = dat a i ||| dat b i := by
  unfold dat unite
  simp only [List.getD_eq_getElem?_getD, List.getElem?_zipWith]
  by_cases hi : i < a.length
  · have hj : i < b.length := by omega
    simp [hi, hj]
  · have hj : ¬ i < b.length := by omega
    simp [List.getElem?_eq_none (Nat.not_lt.mp hi), List.getElem?_eq_none (Nat.not_lt.mp hj)]
theorem bt_unite {a b : List Nat} (h : b.length = a.length) (k i : Nat) : bt k (unite a b) i = (bt k a i || bt k b i) := by
  unfold bt; rw [dat_unite h, Nat.testBit_or]
theorem orL_bit {β : Nat} (l : List Nat) : (orL l).testBit β = false ↔ ∀ x ∈ l, x.testBit β = false := by
  rw [or_bit]; simp

theorem list_sum_lt {w : Nat} : ∀ {l : List Nat}, (∀ a ∈ l, a < 2 ^ w) → l.sum ≤ l.length * 2 ^ w
  | [], _ => by simp
  | a :: r, h => by
    have := list_sum_lt (l := r) fun b hb => h b (by simp [hb])
    have := h a (by simp)
    simp only [List.sum_cons, List.length_cons, Nat.succ_mul]; omega
theorem unite_sum : ∀ {a b : List Nat}, b.length = a.length → a.sum ≤ (unite a b).sum ∧ (unite a b ≠ a → a.sum < (unite a b).sum)
  | [], [], _ => by simp [unite]
  | a :: r, b :: q, h => by
    have ⟨h1, h2⟩ := unite_sum (a := r) (b := q) (by simpa using h)
    have e : unite (a :: r) (b :: q) = (a ||| b) :: unite r q := by simp [unite]
    have h3 : a ≤ a ||| b := Nat.left_le_or
    rw [e]
    simp only [List.sum_cons]
    refine ⟨by omega, fun hne => ?_⟩
    by_cases h4 : unite r q = r
    · have : a ||| b ≠ a := fun h5 => hne (by rw [h4, h5])
      omega
    · have := h2 h4
      omega
  | [], _ :: _, h => by simp at h
  | _ :: _, [], h => by simp at h

/-- Sets of w cells. -/
structure Okd (w : Nat) (s : Dp) : Prop where
  len : s.sets.length = w
  le : w ≤ 14
  row : ∀ a ∈ s.sets, a < 2 ^ w
  tr : s.tr < 2 ^ w
  re : s.re < 2 ^ w
theorem dat_lt {w : Nat} {s : List Nat} (h : ∀ a ∈ s, a < 2 ^ w) (i : Nat) : dat s i < 2 ^ w := by
  unfold dat
  rw [List.getD_eq_getElem?_getD]
  cases he : s[i]? with
  | none => simp; exact Nat.two_pow_pos w
  | some a => exact h a (List.mem_of_getElem? he)
theorem orL_lt {w : Nat} : ∀ {l : List Nat} {a : Nat}, a < 2 ^ w → (∀ x ∈ l, x < 2 ^ w) → l.foldl (fun a b => a ||| b) a < 2 ^ w
  | [], a, h, _ => h
  | b :: r, a, h, hl => by rw [List.foldl_cons]; exact orL_lt (Nat.or_lt_two_pow h (hl b (by simp))) fun x hx => hl x (by simp [hx])
theorem setE_lt {w nv : Nat} {s : List Nat} (h : ∀ a ∈ s, a < 2 ^ w) : ∀ (d : Nat) (e : Ex), (setE nv s d e).1 < 2 ^ w ∧ (setE nv s d e).2 < 2 ^ w
  | 0, _ => ⟨Nat.two_pow_pos w, Nat.two_pow_pos w⟩
  | d + 1, .mk k v ks => by
    have h1 : orL (ks.map fun e => (setE nv s d e).1) < 2 ^ w := orL_lt (Nat.two_pow_pos w) fun x hx => by
      obtain ⟨e, he, rfl⟩ := List.mem_map.1 hx; exact (setE_lt h d e).1
    have h2 : orL (ks.map fun e => (setE nv s d e).2) < 2 ^ w := orL_lt (Nat.two_pow_pos w) fun x hx => by
      obtain ⟨e, he, rfl⟩ := List.mem_map.1 hx; exact (setE_lt h d e).2
    simp only [setE]
    split
    · exact ⟨Nat.or_lt_two_pow h1 (dat_lt h _), h2⟩
    · split
      · exact ⟨Nat.or_lt_two_pow h1 (dat_lt h _), Nat.or_lt_two_pow h2 h1⟩
      · exact ⟨h1, h2⟩
theorem set_row {w : Nat} {s : List Nat} (h : ∀ a ∈ s, a < 2 ^ w) {i x : Nat} (hx : x < 2 ^ w) : ∀ a ∈ s.set i x, a < 2 ^ w := fun a ha => by
  rcases List.mem_or_eq_of_mem_set ha with h1 | h1
  · exact h a h1
  · rw [h1]; exact hx
theorem unite_row {w : Nat} : ∀ {a b : List Nat}, (∀ x ∈ a, x < 2 ^ w) → (∀ x ∈ b, x < 2 ^ w) → ∀ x ∈ unite a b, x < 2 ^ w
  | [], _, _, _, x, hx => by simp [unite] at hx
  | _ :: _, [], _, _, x, hx => by simp [unite] at hx
  | a :: r, b :: q, h1, h2, x, hx => by
    have e : unite (a :: r) (b :: q) = (a ||| b) :: unite r q := by simp [unite]
    rw [e] at hx
    rcases List.mem_cons.1 hx with h | h
    · rw [h]; exact Nat.or_lt_two_pow (h1 a (by simp)) (h2 b (by simp))
    · exact unite_row (fun y hy => h1 y (by simp [hy])) (fun y hy => h2 y (by simp [hy])) x h
theorem Okd.unite {w : Nat} {s t : Dp} (h : Okd w s) (h' : Okd w t) {a b : Nat} (ha : a < 2 ^ w) (hb : b < 2 ^ w) : Okd w ⟨CtR.unite s.sets t.sets, a, b⟩ :=
  ⟨by rw [unite_len (by rw [h'.len, h.len])]; exact h.len, h.le, unite_row h.row h'.row, ha, hb⟩

/-- What a fixed point is. -/
theorem fix_spec {w : Nat} {f : Dp → Dp} (hf : ∀ s, Okd w s → Okd w (f s)) (Q : Dp → Prop)
    (hQ : ∀ s, Okd w s → Q s → Q ⟨unite s.sets (f s).sets, (f s).tr, (f s).re⟩) : ∀ (n : Nat) (s : Dp), Okd w s → Q s → w * 2 ^ w < n + s.sets.sum →
    ∃ t, Okd w t ∧ Q t ∧ fixD f n s = ⟨t.sets, (f t).tr, (f t).re⟩ ∧ unite t.sets (f t).sets = t.sets
  | 0, s, h, _, hn => by
    have := list_sum_lt (w := w) h.row
    rw [h.len] at this
    omega
  | n + 1, s, h, hq, hn => by
    have hfs := hf s h
    unfold fixD
    by_cases he : unite s.sets (f s).sets = s.sets
    · rw [if_pos he]
      exact ⟨s, h, hq, rfl, he⟩
    · rw [if_neg he]
      have h2 := (unite_sum (a := s.sets) (b := (f s).sets) (by rw [hfs.len, h.len])).2 he
      exact fix_spec hf Q hQ n _ (h.unite hfs hfs.tr hfs.re) (hQ s h hq) (by show w * 2 ^ w < n + (unite s.sets (f s).sets).sum; omega)
theorem fu_big {w : Nat} (h : w ≤ 14) (x : Nat) : w * 2 ^ w < FU + x := by
  have h1 : 2 ^ w ≤ 2 ^ 14 := Nat.pow_le_pow_right (by omega) h
  have h2 : w * 2 ^ w ≤ 14 * 2 ^ 14 := Nat.mul_le_mul h h1
  unfold FU
  omega

theorem fold_inv {α β : Type} {Q : α → Prop} {f : α → β → α} : ∀ (l : List β) (s : α), Q s → (∀ x ∈ l, ∀ s, Q s → Q (f s x)) → Q (l.foldl f s)
  | [], _, h, _ => h
  | x :: r, s, h, hf => fold_inv r _ (hf x (by simp) s h) fun y hy => hf y (by simp [hy])

theorem dep_ok {w nv : Nat} : ∀ (d c : Nat) (s : Dp) (t : St1), c < 2 ^ w → Okd w s → Okd w (depS nv d c s t)
  | 0, _, _, _, _, h => h
  | d + 1, c, s, .mk k t ix v cc b e, hc, h => by
    have hV := setE_lt (nv := nv) h.row 5 v
    have hI := setE_lt (nv := nv) h.row 5 ix
    have hl : ∀ (c : Nat) (l : List St1) (s : Dp), c < 2 ^ w → Okd w s → Okd w (l.foldl (depS nv d c) s) := fun c l s hc h =>
      fold_inv (Q := Okd w) l s h fun x _ s hs => dep_ok d c s x hc hs
    have o := fun {a b : Nat} (h1 : a < 2 ^ w) (h2 : b < 2 ^ w) => Nat.or_lt_two_pow h1 h2
    by_cases k4 : k = 4
    · subst k4
      rw [depS_4]
      obtain ⟨t, ht, _, e1, _⟩ := fix_spec (f := fun s => b.foldl (depS nv d c) s) (fun s hs => hl c b s hc hs) (fun _ => True) (fun _ _ _ => trivial) FU s h trivial (fu_big h.le _)
      rw [e1]
      have := hl c b t hc ht
      exact ⟨ht.len, ht.le, ht.row, this.tr, this.re⟩
    by_cases k1 : k = 1
    · subst k1
      rw [depS_1]
      exact ⟨by simp [h.len], h.le, set_row h.row (o hV.1 hc), o h.tr hV.2, h.re⟩
    by_cases k5 : k = 5
    · subst k5
      rw [depS_5]
      exact ⟨by simp [h.len], h.le, set_row h.row (o hV.1 hc), o (o h.tr hV.2) (o hV.1 hc), o h.re (o hV.1 hc)⟩
    by_cases k2 : k = 2
    · subst k2
      rw [depS_2]
      exact ⟨by simp [h.len], h.le, set_row h.row (o (dat_lt h.row _) (o (o hV.1 hI.1) hc)), o (o (o h.tr hV.2) hI.2) hI.1, h.re⟩
    by_cases k3 : k = 3
    · subst k3
      rw [depS_3]
      have hy : Okd w (ifY nv d c s v b) := hl _ b _ (o hc hV.1) ⟨h.len, h.le, h.row, o (o h.tr hV.2) hV.1, h.re⟩
      have hn : Okd w (ifN nv d c s v b e) := hl _ e _ (o hc hV.1) ⟨h.len, h.le, h.row, hy.tr, hy.re⟩
      exact hy.unite hn hn.tr hn.re
    · have : depS nv (d + 1) c s (.mk k t ix v cc b e) = ⟨s.sets.set t.toNat ((setE nv s.sets 5 v).1 ||| c), s.tr ||| (setE nv s.sets 5 v).2, s.re⟩ := by simp [depS, k4, k2, k3, k5]
      rw [this]
      exact ⟨by simp [h.len], h.le, set_row h.row (o hV.1 hc), o h.tr hV.2, h.re⟩
end Go.Proofs.Ytmagbjbanpgmhaa.CtR

namespace Go.Proofs.Ytmagbjbanpgmhaa.CtR
open Go Go.CT CtF

theorem bit_or {k a b : Nat} : (a ||| b).testBit k = false ↔ a.testBit k = false ∧ b.testBit k = false := by rw [Nat.testBit_or]; simp
theorem foldl_ok {w nv d c : Nat} (hc : c < 2 ^ w) (l : List St1) {s : Dp} (h : Okd w s) : Okd w (l.foldl (depS nv d c) s) :=
  fold_inv (Q := Okd w) l s h fun x _ s hs => dep_ok d c s x hc hs
/-- Trace and releases only grow. -/
def Le0 (k : Nat) (s s' : Dp) : Prop := (s'.tr.testBit k = false → s.tr.testBit k = false) ∧ (s'.re.testBit k = false → s.re.testBit k = false)
theorem Le0.trans {k : Nat} {a b c : Dp} (h : Le0 k a b) (h' : Le0 k b c) : Le0 k a c := ⟨fun x => h.1 (h'.1 x), fun x => h.2 (h'.2 x)⟩
theorem fold_le {k w : Nat} {G : Dp → St1 → Dp} : ∀ (l : List St1) (s : Dp), Okd w s → (∀ x ∈ l, ∀ s, Okd w s → Okd w (G s x)) → (∀ x ∈ l, ∀ s, Okd w s → Le0 k s (G s x)) → Le0 k s (l.foldl G s)
  | [], s, _, _, _ => ⟨id, id⟩
  | x :: r, s, h, h1, h2 => (h2 x (by simp) s h).trans (fold_le r _ (h1 x (by simp) s h) (fun y hy => h1 y (by simp [hy])) fun y hy => h2 y (by simp [hy]))
theorem dep_le {k w nv : Nat} : ∀ (d c : Nat) (s : Dp) (t : St1), c < 2 ^ w → Okd w s → Le0 k s (depS nv d c s t)
  | 0, _, _, _, _, _ => ⟨id, id⟩
  | d + 1, c, s, .mk kd t ix v cc b e, hc, h => by
    have hV := setE_lt (nv := nv) h.row 5 v
    have hl : ∀ (c : Nat) (l : List St1) (s : Dp), c < 2 ^ w → Okd w s → Le0 k s (l.foldl (depS nv d c) s) := fun c l s hc h =>
      fold_le l s h (fun x _ s hs => dep_ok d c s x hc hs) fun x _ s hs => dep_le d c s x hc hs
    by_cases k4 : kd = 4
    · subst k4
      rw [depS_4]
      obtain ⟨t, ht, hq, e1, _⟩ := fix_spec (f := fun s => b.foldl (depS nv d c) s) (fun s hs => foldl_ok hc b hs) (fun t => Le0 k s t)
        (fun t ht hq => hq.trans ⟨fun h => (hl c b t hc ht).1 h, fun h => (hl c b t hc ht).2 h⟩) FU s h ⟨id, id⟩ (fu_big h.le _)
      rw [e1]
      exact hq.trans ⟨fun h => (hl c b t hc ht).1 h, fun h => (hl c b t hc ht).2 h⟩
    by_cases k2 : kd = 2
    · subst k2; rw [depS_2]
      exact ⟨fun h => by simp only [bit_or] at h; exact h.1.1.1, fun h => h⟩
    by_cases k5 : kd = 5
    · subst k5; rw [depS_5]
      exact ⟨fun h => by simp only [bit_or] at h; exact h.1.1, fun h => by simp only [bit_or] at h; exact h.1⟩
    by_cases k3 : kd = 3
    · subst k3; rw [depS_3]
      have ho := Nat.or_lt_two_pow hc hV.1
      have i1 : Okd w ⟨s.sets, s.tr ||| (setE nv s.sets 5 v).2 ||| (setE nv s.sets 5 v).1, s.re⟩ := ⟨h.len, h.le, h.row, Nat.or_lt_two_pow (Nat.or_lt_two_pow h.tr hV.2) hV.1, h.re⟩
      have hy : Le0 k _ (ifY nv d c s v b) := hl _ b _ ho i1
      have oy : Okd w (ifY nv d c s v b) := foldl_ok ho b i1
      have hn : Le0 k _ (ifN nv d c s v b e) := hl _ e _ ho ⟨h.len, h.le, h.row, oy.tr, oy.re⟩
      exact ⟨fun h => by have := hy.1 (hn.1 h); simp only [bit_or] at this; exact this.1.1, fun h => hy.2 (hn.2 h)⟩
    · have : depS nv (d + 1) c s (.mk kd t ix v cc b e) = ⟨s.sets.set t.toNat ((setE nv s.sets 5 v).1 ||| c), s.tr ||| (setE nv s.sets 5 v).2, s.re⟩ := by simp [depS, k4, k2, k3, k5]
      rw [this]
      exact ⟨fun h => by simp only [bit_or] at h; exact h.1, fun h => h⟩
theorem if_trace {k w nv d c : Nat} {s : Dp} {v : Ex} {b e : List St1} (hc : c < 2 ^ w) (h : Okd w s) (hb : (ifN nv d c s v b e).tr.testBit k = false) :
    (ifY nv d c s v b).tr.testBit k = false ∧ (setE nv s.sets 5 v).1.testBit k = false ∧ (setE nv s.sets 5 v).2.testBit k = false := by
  have hV := setE_lt (nv := nv) h.row 5 v
  have ho := Nat.or_lt_two_pow hc hV.1
  have hl : ∀ (c : Nat) (l : List St1) (s : Dp), c < 2 ^ w → Okd w s → Le0 k s (l.foldl (depS nv d c) s) := fun c l s hc h =>
    fold_le l s h (fun x _ s hs => dep_ok d c s x hc hs) fun x _ s hs => dep_le d c s x hc hs
  have i1 : Okd w ⟨s.sets, s.tr ||| (setE nv s.sets 5 v).2 ||| (setE nv s.sets 5 v).1, s.re⟩ := ⟨h.len, h.le, h.row, Nat.or_lt_two_pow (Nat.or_lt_two_pow h.tr hV.2) hV.1, h.re⟩
  have hy : Le0 k _ (ifY nv d c s v b) := hl _ b _ ho i1
  have oy : Okd w (ifY nv d c s v b) := foldl_ok ho b i1
  have hn : Le0 k _ (ifN nv d c s v b e) := hl _ e _ ho ⟨h.len, h.le, h.row, oy.tr, oy.re⟩
  have h1 := hn.1 hb
  have h2 := hy.1 h1
  simp only [bit_or] at h2
  exact ⟨h1, h2.2, h2.1.2⟩

/-- What is released is in the trace. -/
def RT (s : Dp) : Prop := ∀ k, s.re.testBit k = true → s.tr.testBit k = true
theorem dep_rt {w nv : Nat} : ∀ (d c : Nat) (s : Dp) (t : St1), c < 2 ^ w → Okd w s → RT s → RT (depS nv d c s t)
  | 0, _, _, _, _, _, h => h
  | d + 1, c, s, .mk kd t ix v cc b e, hc, h, hr => by
    have hV := setE_lt (nv := nv) h.row 5 v
    have hl : ∀ (c : Nat) (l : List St1) (s : Dp), c < 2 ^ w → Okd w s → RT s → RT (l.foldl (depS nv d c) s) := fun c l s hc h hr =>
      (fold_inv (Q := fun s => Okd w s ∧ RT s) l s ⟨h, hr⟩ fun x _ s hs => ⟨dep_ok d c s x hc hs.1, dep_rt d c s x hc hs.1 hs.2⟩).2
    by_cases k4 : kd = 4
    · subst k4
      rw [depS_4]
      obtain ⟨t, ht, hq, e1, _⟩ := fix_spec (f := fun s => b.foldl (depS nv d c) s) (fun s hs => foldl_ok hc b hs) RT (fun t ht hq => hl c b t hc ht hq) FU s h hr (fu_big h.le _)
      rw [e1]
      exact hl c b t hc ht hq
    by_cases k2 : kd = 2
    · subst k2; rw [depS_2]
      exact fun k h => by simp only [Nat.testBit_or, hr k h, Bool.true_or]
    by_cases k5 : kd = 5
    · subst k5; rw [depS_5]
      intro k h
      simp only [Nat.testBit_or, Bool.or_eq_true] at h ⊢
      rcases h with h | h
      · exact .inl (.inl (hr k h))
      · exact .inr h
    by_cases k3 : kd = 3
    · subst k3; rw [depS_3]
      have ho := Nat.or_lt_two_pow hc hV.1
      have i1 : Okd w ⟨s.sets, s.tr ||| (setE nv s.sets 5 v).2 ||| (setE nv s.sets 5 v).1, s.re⟩ := ⟨h.len, h.le, h.row, Nat.or_lt_two_pow (Nat.or_lt_two_pow h.tr hV.2) hV.1, h.re⟩
      have oy : Okd w (ifY nv d c s v b) := foldl_ok ho b i1
      have hy : RT (ifY nv d c s v b) := hl _ b _ ho i1 fun k h => by simp only [Nat.testBit_or, hr k h, Bool.true_or]
      exact hl _ e _ ho ⟨h.len, h.le, h.row, oy.tr, oy.re⟩ hy
    · have : depS nv (d + 1) c s (.mk kd t ix v cc b e) = ⟨s.sets.set t.toNat ((setE nv s.sets 5 v).1 ||| c), s.tr ||| (setE nv s.sets 5 v).2, s.re⟩ := by simp [depS, k4, k2, k3, k5]
      rw [this]
      exact fun k h => by simp only [Nat.testBit_or, hr k h, Bool.true_or]

/-- In a context that depends on an input, what does not depend on it afterwards is unchanged. -/
structure Conf (k nv : Nat) (s' s : List Nat) (m m' : Mm) : Prop where
  lv : m.vals.length = m'.vals.length
  la : m.arrays.length = m'.arrays.length
  low : ∀ i, bt k s' i = false → bt k s i = false
  val : ∀ i, i < nv → bt k s' i = false → m.vals[i]? = m'.vals[i]?
  arr : ∀ i, bt k s' (nv + i) = false → m.arrays[i]? = m'.arrays[i]?
theorem Conf.refl (k nv : Nat) (s : List Nat) (m : Mm) : Conf k nv s s m m := ⟨rfl, rfl, fun _ h => h, fun _ _ _ => rfl, fun _ _ => rfl⟩
theorem Conf.trans {k nv : Nat} {a b c : List Nat} {m m' m'' : Mm} (h : Conf k nv b a m m') (h' : Conf k nv c b m' m'') : Conf k nv c a m m'' :=
  ⟨h.lv.trans h'.lv, h.la.trans h'.la, fun i x => h.low i (h'.low i x), fun i hi x => (h.val i hi (h'.low i x)).trans (h'.val i hi x), fun i x => (h.arr i (h'.low _ x)).trans (h'.arr i x)⟩
theorem Conf.wide {k nv : Nat} {s' s r' r : List Nat} {m m' : Mm} (h : Conf k nv s' s m m') (h1 : ∀ i, bt k r' i = false → bt k s' i = false) (h2 : ∀ i, bt k s' i = false → bt k s i = false → bt k r i = false) : Conf k nv r' r m m' :=
  ⟨h.lv, h.la, fun i x => h2 i (h1 i x) (h.low i (h1 i x)), fun i hi x => h.val i hi (h1 i x), fun i x => h.arr i (h1 _ x)⟩
theorem conf_list {k nv w : Nat} {G : Dp → St1 → Dp} {F : Mm → St1 → Mm × List Ev} : ∀ (l : List St1) (s : Dp) (m : Mm), Okd w s → (∀ x ∈ l, ∀ s, Okd w s → Okd w (G s x)) →
    (∀ x ∈ l, ∀ s m, Okd w s → Conf k nv (G s x).sets s.sets m (F m x).1) → Conf k nv (l.foldl G s).sets s.sets m (foldR F m l).1
  | [], s, m, _, _, _ => .refl _ _ _ _
  | x :: r, s, m, h, h1, h2 => (h2 x (by simp) s m h).trans (conf_list r _ _ (h1 x (by simp) s h) (fun y hy => h1 y (by simp [hy])) fun y hy => h2 y (by simp [hy]))
theorem conf_iter {k nv : Nat} {s' s : List Nat} {f : Mm → Mm × List Ev} (hs : ∀ i, bt k s i = false → bt k s' i = false) (hf : ∀ m, Conf k nv s' s m (f m).1) : ∀ (n : Nat) (m : Mm), Conf k nv s s m (iterR f n m).1
  | 0, m => .refl _ _ _ _
  | n + 1, m => (conf_iter hs hf n m).trans ((hf _).wide hs fun i _ h => h)
theorem bt_fix {k w : Nat} {t t' : Dp} (h : Okd w t) (h' : Okd w t') (he : unite t.sets t'.sets = t.sets) (i : Nat) (hb : bt k t.sets i = false) : bt k t'.sets i = false := by
  rw [← he, bt_unite (by rw [h'.len, h.len])] at hb
  simpa using (Bool.or_eq_false_iff.1 hb).2

theorem dep_conf {k w : Nat} {p : Pg} (hw : p.vars.length + p.arrays.length = w) : ∀ (d c : Nat) (s : Dp) (t : St1) (m : Mm), c < 2 ^ w → c.testBit k = true → Okd w s → stmtOK p d t = true → Conf k p.vars.length (depS p.vars.length d c s t).sets s.sets m (runS d m t).1
  | 0, _, s, _, m, _, _, _, _ => .refl _ _ _ _
  | d + 1, c, s, .mk kd t ix v cc b e, m, hc, hk, h, hso => by
    have hV := setE_lt (nv := p.vars.length) h.row 5 v
    have hbo := stmtOK_succ hso
    have hh := head_kind hbo.1
    have hl : ∀ (c : Nat) (l : List St1) (s : Dp) (m : Mm), (∀ x ∈ l, stmtOK p d x = true) → c < 2 ^ w → c.testBit k = true → Okd w s → Conf k p.vars.length (l.foldl (depS p.vars.length d c) s).sets s.sets m (foldR (runS d) m l).1 := fun c l s m hlo hc hk h =>
      conf_list l s m h (fun x _ s hs => dep_ok d c s x hc hs) fun x hx s m hs => dep_conf hw d c s x m hc hk hs (hlo x hx)
    have hsv : ∀ (x : Nat) (y : Int), x.testBit k = true → 0 ≤ t → t < p.vars.length → Conf k p.vars.length (s.sets.set t.toNat x) s.sets m (setV m t y) := fun x y hx t0 t1 => by
      have e1 : ∀ i, bt k (s.sets.set t.toNat x) i = false → t.toNat ≠ i ∧ bt k s.sets i = false := fun i hi => by
        rw [bt_set] at hi
        by_cases ht : t.toNat = i ∧ t.toNat < s.sets.length
        · rw [if_pos ht, hx] at hi; cases hi
        · rw [if_neg ht] at hi
          exact ⟨fun e => ht ⟨e, by rw [h.len]; omega⟩, hi⟩
      exact ⟨by simp [setV], rfl, fun i hi => (e1 i hi).2, fun i _ hi => by simp [setV, List.getElem?_set, (e1 i hi).1], fun _ _ => rfl⟩
    by_cases k4 : kd = 4
    · subst k4
      rw [depS_4, runS_4]
      obtain ⟨t, ht, hq, e1, e2⟩ := fix_spec (f := fun s => b.foldl (depS p.vars.length d c) s) (fun s hs => foldl_ok hc b hs) (fun t => ∀ i, bt k t.sets i = false → bt k s.sets i = false)
        (fun t ht hq i hi => hq i (by rw [bt_unite (by rw [(foldl_ok hc b ht).len, ht.len])] at hi; exact (Bool.or_eq_false_iff.1 hi).1)) FU s h (fun _ h => h) (fu_big h.le _)
      rw [e1]
      exact (conf_iter (fun i hi => bt_fix ht (foldl_ok hc b ht) e2 i hi) (fun m => hl c b t m hbo.2.1 hc hk ht) _ m).wide (fun i h => h) fun i h1 h2 => hq i h2
    by_cases k1 : kd = 1
    · subst k1; rw [depS_1, runS_1]
      exact hsv _ _ (by simp [Nat.testBit_or, hk]) (by omega) (by omega)
    by_cases k5 : kd = 5
    · subst k5; rw [depS_5, runS_5]
      exact hsv _ _ (by simp [Nat.testBit_or, hk]) (by omega) (by omega)
    by_cases k2 : kd = 2
    · subst k2; rw [depS_2, runS_2]
      have t0 : 0 ≤ t ∧ t < p.arrays.length := by omega
      have e1 : ∀ i, bt k (s.sets.set (p.vars.length + t.toNat) (dat s.sets (p.vars.length + t.toNat) ||| ((setE p.vars.length s.sets 5 v).1 ||| (setE p.vars.length s.sets 5 ix).1 ||| c))) i = false → p.vars.length + t.toNat ≠ i ∧ bt k s.sets i = false := fun i hi => by
        rw [bt_set] at hi
        by_cases ht : p.vars.length + t.toNat = i ∧ p.vars.length + t.toNat < s.sets.length
        · rw [if_pos ht] at hi; simp [Nat.testBit_or, hk] at hi
        · rw [if_neg ht] at hi
          exact ⟨fun e => ht ⟨e, by rw [h.len]; omega⟩, hi⟩
      exact ⟨rfl, by simp [setA], fun i hi => (e1 i hi).2, fun i _ hi => rfl, fun i hi => by
        have : t.toNat ≠ i := fun e => (e1 _ hi).1 (by rw [e])
        simp [setA, List.getElem?_set, this]⟩
    have k3 : kd = 3 := by omega
    subst k3
    rw [depS_3]
    have ho := Nat.or_lt_two_pow hc hV.1
    have hk2 : (c ||| (setE p.vars.length s.sets 5 v).1).testBit k = true := by simp [Nat.testBit_or, hk]
    have i1 : Okd w ⟨s.sets, s.tr ||| (setE p.vars.length s.sets 5 v).2 ||| (setE p.vars.length s.sets 5 v).1, s.re⟩ := ⟨h.len, h.le, h.row, Nat.or_lt_two_pow (Nat.or_lt_two_pow h.tr hV.2) hV.1, h.re⟩
    have oy : Okd w (ifY p.vars.length d c s v b) := foldl_ok ho b i1
    have i2 : Okd w ⟨s.sets, (ifY p.vars.length d c s v b).tr, (ifY p.vars.length d c s v b).re⟩ := ⟨h.len, h.le, h.row, oy.tr, oy.re⟩
    have on : Okd w (ifN p.vars.length d c s v b e) := foldl_ok ho e i2
    have hy : Conf k p.vars.length (ifY p.vars.length d c s v b).sets s.sets m (foldR (runS d) m b).1 := hl _ b _ m hbo.2.1 ho hk2 i1
    have hn : Conf k p.vars.length (ifN p.vars.length d c s v b e).sets s.sets m (foldR (runS d) m e).1 := hl _ e _ m hbo.2.2 ho hk2 i2
    have hu : ∀ i, bt k (unite (ifY p.vars.length d c s v b).sets (ifN p.vars.length d c s v b e).sets) i = false → bt k (ifY p.vars.length d c s v b).sets i = false ∧ bt k (ifN p.vars.length d c s v b e).sets i = false := fun i hi => by
      rw [bt_unite (by rw [on.len, oy.len])] at hi; exact Bool.or_eq_false_iff.1 hi
    have hi := runS_if (d := d) (m := m) (t := t) (ix := ix) (v := v) (c := cc) (b := b) (e := e) k4 k1 k5 k2
    by_cases hv : (evalE m 5 v).1 = 0
    · rw [hi.2 hv]; exact hn.wide (fun i h => (hu i h).2) fun i _ h => h
    · rw [hi.1 hv]; exact hy.wide (fun i h => (hu i h).1) fun i _ h => h
end Go.Proofs.Ytmagbjbanpgmhaa.CtR
