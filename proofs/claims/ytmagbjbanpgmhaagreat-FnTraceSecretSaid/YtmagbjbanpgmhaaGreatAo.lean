/- Contracts of functions of the program, one behind the other, as plain data: what each call returns and which blocks it leaves. -/
import Derived.Test.YtmagbjbanpgmhaaGreatFacts
import Derived.Test.YtmagbjbanpgmhaaGreatAk
import Derived.Test.YtmagbjbanpgmhaaGreatAl
import Derived.Test.YtmagbjbanpgmhaaGreatAn
import Derived.Test.YtmagbjbanpgmhaaGreatAi
set_option linter.unusedVariables false
set_option linter.unusedSimpArgs false
set_option maxHeartbeats 16000000
set_option maxRecDepth 100000
namespace Go.Proofs.YtmagbjbanpgmhaaGreat.CtR
open Go Go.CT CtF

def setV (m : Mm) (t x : Int) : Mm := ⟨m.vals.set t.toNat x, m.arrays⟩
def setA (m : Mm) (t i x : Int) : Mm := ⟨m.vals, m.arrays.set t.toNat ((arrAt m t).set i.toNat x)⟩
def foldR (f : Mm → St1 → Mm × List Ev) : Mm → List St1 → Mm × List Ev
  | m, [] => (m, [])
  | m, s :: r => ((foldR f (f m s).1 r).1, (f m s).2 ++ (foldR f (f m s).1 r).2)
def iterR (f : Mm → Mm × List Ev) : Nat → Mm → Mm × List Ev
  | 0, m => (m, [])
  | n + 1, m => ((f (iterR f n m).1).1, (iterR f n m).2 ++ (f (iterR f n m).1).2)
theorem foldR_snoc (f : Mm → St1 → Mm × List Ev) : ∀ (l : List St1) (m : Mm) (s : St1), foldR f m (l ++ [s]) = ((f (foldR f m l).1 s).1, (foldR f m l).2 ++ (f (foldR f m l).1 s).2)
  | [], m, s => by simp [foldR]
  | a :: r, m, s => by simp only [List.cons_append, foldR, foldR_snoc f r, List.append_assoc]
/-- What a statement does. -/
def runS : Nat → Mm → St1 → Mm × List Ev
  | 0, m, _ => (m, [])
  | d + 1, m, .mk k t ix v c b e =>
    if k = 4 then iterR (fun m => foldR (runS d) m b) c.toNat m
    else if k = 1 then (setV m t (evalE m 5 v).1, (evalE m 5 v).2)
    else if k = 5 then (setV m t (evalE m 5 v).1, (evalE m 5 v).2 ++ [⟨4, (evalE m 5 v).1⟩])
    else if k = 2 then (setA m t ((evalE m 5 ix).1 % 4) (evalE m 5 v).1, (evalE m 5 v).2 ++ [⟨3, t * 4 + (evalE m 5 ix).1 % 4⟩])
    else if (evalE m 5 v).1 ≠ 0 then ((foldR (runS d) m b).1, (evalE m 5 v).2 ++ [⟨1, 1⟩] ++ (foldR (runS d) m b).2)
    else ((foldR (runS d) m e).1, (evalE m 5 v).2 ++ [⟨1, 0⟩] ++ (foldR (runS d) m e).2)
def runL (d : Nat) (m : Mm) (l : List St1) : Mm × List Ev := foldR (runS d) m l
theorem runL_succ (d : Nat) (m : Mm) (l : List St1) (i : Nat) (s : St1) (h : l[i]? = some s) :
    runL d m (l.take (i + 1)) = ((runS d (runL d m (l.take i)).1 s).1, (runL d m (l.take i)).2 ++ (runS d (runL d m (l.take i)).1 s).2) := by
  unfold runL; rw [List.take_add_one, h]; exact foldR_snoc _ _ _ _

theorem set_mem {l : List Int} {i : Nat} {x y : Int} (h : y ∈ l.set i x) : y ∈ l ∨ y = x := List.mem_or_eq_of_mem_set h
theorem MemFits.setV {p : Pg} {m : Mm} (hm : MemFits p m) {t x : Int} (hx : 0 ≤ x ∧ x ≤ 255) : MemFits p (setV m t x) where
  nv := by simp [CtR.setV, hm.nv]
  na := hm.na
  nv12 := hm.nv12
  na2 := hm.na2
  val := fun y hy => (set_mem hy).elim (hm.val y) fun h => by rw [h]; exact hx
  arr := hm.arr
theorem MemFits.setA {p : Pg} {m : Mm} (hm : MemFits p m) {t i x : Int} (ht : 0 ≤ t ∧ t < m.arrays.length) (hx : 0 ≤ x ∧ x ≤ 255) : MemFits p (setA m t i x) where
  nv := hm.nv
  na := by simp [CtR.setA, hm.na]
  nv12 := hm.nv12
  na2 := hm.na2
  val := hm.val
  arr := fun a ha => by
    have h4 := hm.arr _ (arrAt_mem ht.1 ht.2).2
    rcases List.mem_or_eq_of_mem_set ha with h | h
    · exact hm.arr a h
    · subst h
      exact ⟨by simp [h4.1], fun y hy => (set_mem hy).elim (h4.2 y) fun h => by rw [h]; exact hx⟩

/-- What a valid statement's fields tell. -/
theorem stmtOK_succ {p : Pg} {d : Nat} {k t : Int} {ix v : Ex} {c : Int} {b e : List St1} (h : stmtOK p (d + 1) (.mk k t ix v c b e) = true) :
    headOK p k t ix v c b.length e.length = true ∧ (∀ x ∈ b, stmtOK p d x = true) ∧ (∀ x ∈ e, stmtOK p d x = true) := by
  simp only [stmtOK, Bool.and_eq_true, List.all_eq_true] at h
  exact ⟨h.1.1, h.1.2, h.2⟩
theorem right_shape {p : Pg} {e : Ex} (h : right p e = true) : shape p 5 e = true ∧ cnt 5 e ≤ 15 := by
  simp only [right, Bool.and_eq_true, decide_eq_true_eq] at h
  exact ⟨h.1, by omega⟩
theorem head_kind {p : Pg} {k t : Int} {ix v : Ex} {c : Int} {bn en : Nat} (h : headOK p k t ix v c bn en = true) :
    (k = 1 ∨ k = 5) ∧ 0 ≤ t ∧ t < p.vars.length ∧ right p v = true ∨ k = 2 ∧ 0 ≤ t ∧ t < p.arrays.length ∧ right p ix = true ∧ atom ix = true ∧ right p v = true ∨ k = 3 ∧ right p v = true ∨ k = 4 ∧ 1 ≤ c ∧ c ≤ 3 := by
  unfold headOK parts blk at h
  by_cases h1 : k = 1 ∨ k = 5
  · left; simp only [if_pos h1] at h; grind
  · right
    by_cases h2 : k = 2
    · left; subst h2; simp at h; grind
    · right
      by_cases h3 : k = 3
      · left; subst h3; simp at h; grind
      · right
        have h4 : k = 4 := by grind
        subst h4; simp at h; grind

def wt (d : Nat) : Nat := 20 * 3 ^ d
theorem foldR_ok {p : Pg} {f : Mm → St1 → Mm × List Ev} {q : St1 → Bool} {w : St1 → Nat} (hf : ∀ m s, MemFits p m → q s = true → MemFits p (f m s).1 ∧ (f m s).2.length ≤ w s) :
    ∀ (l : List St1) (m : Mm), MemFits p m → (∀ s ∈ l, q s = true) → MemFits p (foldR f m l).1 ∧ (foldR f m l).2.length ≤ (l.map w).sum
  | [], m, hm, _ => ⟨hm, by simp [foldR]⟩
  | a :: r, m, hm, hq => by
    have h1 := hf m a hm (hq a (by simp))
    have h2 := foldR_ok hf r _ h1.1 fun s hs => hq s (by simp [hs])
    refine ⟨h2.1, ?_⟩
    simp only [foldR, List.length_append, List.map_cons, List.sum_cons]
    omega
theorem iterR_ok {p : Pg} {f : Mm → Mm × List Ev} {w : Nat} (hf : ∀ m, MemFits p m → MemFits p (f m).1 ∧ (f m).2.length ≤ w) : ∀ (n : Nat) (m : Mm), MemFits p m → MemFits p (iterR f n m).1 ∧ (iterR f n m).2.length ≤ n * w
  | 0, m, hm => ⟨hm, by simp [iterR]⟩
  | n + 1, m, hm => by
    have h1 := iterR_ok hf n m hm
    have h2 := hf _ h1.1
    refine ⟨h2.1, ?_⟩
    simp only [iterR, List.length_append, Nat.add_mul]
    omega
theorem sum_mul (f : St1 → Nat) (k : Nat) : ∀ l : List St1, (l.map fun s => k * f s).sum = k * (l.map f).sum
  | [] => by simp
  | a :: r => by simp only [List.map_cons, List.sum_cons, sum_mul f k r, Nat.mul_add]
theorem runS_ok {p : Pg} : ∀ (d : Nat) (m : Mm) (s : St1), MemFits p m → stmtOK p d s = true → MemFits p (runS d m s).1 ∧ (runS d m s).2.length ≤ wt d * tsize d s
  | 0, m, s, _, h => by simp [stmtOK] at h
  | d + 1, m, .mk k t ix v c b e, hm, h => by
    obtain ⟨hh, hb, he⟩ := stmtOK_succ h
    have fb := fun m' hm' => foldR_ok (fun m s hm hs => runS_ok d m s hm hs) b m' hm' hb
    have fe := fun m' hm' => foldR_ok (fun m s hm hs => runS_ok d m s hm hs) e m' hm' he
    simp only [sum_mul] at fb fe
    have hw : wt (d + 1) = 3 * wt d := by unfold wt; rw [Nat.pow_succ]; omega
    have hw1 : 20 ≤ wt d := by unfold wt; have : 0 < 3 ^ d := Nat.pow_pos (by decide); omega
    have hts : tsize (d + 1) (.mk k t ix v c b e) = 1 + (b.map (tsize d)).sum + (e.map (tsize d)).sum := rfl
    have hbig : wt (d + 1) * tsize (d + 1) (.mk k t ix v c b e) = 3 * wt d + 3 * (wt d * (b.map (tsize d)).sum) + 3 * (wt d * (e.map (tsize d)).sum) := by
      rw [hts, hw, Nat.mul_add, Nat.mul_add, Nat.mul_assoc, Nat.mul_assoc, Nat.mul_assoc]; omega
    rw [hbig]
    rcases head_kind hh with ⟨hk, ht0, ht1, hr⟩ | ⟨hk, ht0, ht1, hri, hai, hr⟩ | ⟨hk, hr⟩ | ⟨hk, hc1, hc3⟩
    · have hs := right_shape hr
      have he1 := evalE_range hm 5 v hs.1
      have he2 := evalE_len (m := m) 5 v hs.1
      have hk4 : k ≠ 4 := by omega
      rcases hk with hk | hk
      · subst hk
        simp only [runS, if_neg hk4, if_true]
        exact ⟨hm.setV he1, by omega⟩
      · subst hk
        simp only [runS, if_neg hk4, if_true, show ¬ ((5 : Int) = 1) by decide, if_false]
        exact ⟨hm.setV he1, by simp; omega⟩
    · have hs := right_shape hr
      have he1 := evalE_range hm 5 v hs.1
      have he2 := evalE_len (m := m) 5 v hs.1
      subst hk
      simp only [runS, show ¬ ((2 : Int) = 4) by decide, show ¬ ((2 : Int) = 1) by decide, show ¬ ((2 : Int) = 5) by decide, if_false, if_true]
      exact ⟨hm.setA ⟨ht0, by rw [hm.na]; exact ht1⟩ he1, by simp; omega⟩
    · have hs := right_shape hr
      have he2 := evalE_len (m := m) 5 v hs.1
      subst hk
      simp only [runS, show ¬ ((3 : Int) = 4) by decide, show ¬ ((3 : Int) = 1) by decide, show ¬ ((3 : Int) = 5) by decide, show ¬ ((3 : Int) = 2) by decide, if_false]
      have g1 := fb m hm
      have g2 := fe m hm
      split
      · exact ⟨g1.1, by simp; omega⟩
      · exact ⟨g2.1, by simp; omega⟩
    · subst hk
      simp only [runS, if_true]
      have := iterR_ok (f := fun m => foldR (runS d) m b) (fun m hm => fb m hm) c.toNat m hm
      refine ⟨this.1, Nat.le_trans this.2 ?_⟩
      have hc : c.toNat ≤ 3 := by omega
      have := Nat.mul_le_mul_right (wt d * (b.map (tsize d)).sum) hc
      omega
theorem runL_ok {p : Pg} {d : Nat} {m : Mm} {l : List St1} (hm : MemFits p m) (h : ∀ s ∈ l, stmtOK p d s = true) : MemFits p (runL d m l).1 ∧ (runL d m l).2.length ≤ wt d * lsize d l := by
  have := foldR_ok (fun m s hm hs => runS_ok d m s hm hs) l m hm h
  rw [sum_mul] at this
  exact this
end Go.Proofs.YtmagbjbanpgmhaaGreat.CtR

namespace Go.Proofs.YtmagbjbanpgmhaaGreat.CtR
open Go Go.CT CtF

theorem map_setV (m : Mm) (t x : Int) : (setV m t x).vals.map I64 = (m.vals.map I64).set t.toNat (.v (.int .i64 x)) := by
  unfold setV; exact List.map_set
theorem blk0_set0 (m : Mm) (i x : Int) (h : 0 < m.arrays.length) : blk0 (setA m 0 i x).arrays = (blk0 m.arrays).set i.toNat (.v (.int .i64 x)) := by
  have e : m.arrays[0]? = some (arrAt m 0) := (arrAt_mem (m := m) (v := 0) (by omega) (by omega)).1
  unfold blk0 setA
  simp only [Int.toNat_zero, List.getElem?_set_self h, Option.getD_some, e]
  exact List.map_set
theorem blk1_set0 (m : Mm) (i x : Int) : blk1 (setA m 0 i x).arrays = blk1 m.arrays := by
  unfold blk1 setA
  simp only [Int.toNat_zero]
  rw [List.getElem?_set_ne (by decide)]
theorem blk1_set1 (m : Mm) (i x : Int) (h : 1 < m.arrays.length) : blk1 (setA m 1 i x).arrays = (blk1 m.arrays).set i.toNat (.v (.int .i64 x)) := by
  have e : m.arrays[1]? = some (arrAt m 1) := (arrAt_mem (m := m) (v := 1) (by omega) (by omega)).1
  unfold blk1 setA
  simp only [show (1 : Int).toNat = 1 from rfl, List.getElem?_set_self h, Option.getD_some, e]
  exact List.map_set
theorem blk0_set1 (m : Mm) (i x : Int) : blk0 (setA m 1 i x).arrays = blk0 m.arrays := by
  unfold blk0 setA
  simp only [show (1 : Int).toNat = 1 from rfl]
  rw [List.getElem?_set_ne (by decide)]

theorem cells_kf (k t : Int) (ik iv : Int) (iks : List Ex) (vk vv : Int) (vks : List Ex) (c : Int) (b e : List St1) : ∀ x ∈ St1.cells (.mk k t (.mk ik iv iks) (.mk vk vv vks) c b e), kf x = true := by
  simp [St1.cells, Ex.cells, kf]

end Go.Proofs.YtmagbjbanpgmhaaGreat.CtR
