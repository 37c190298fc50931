/- Contracts of functions of the program, one behind the other, as plain data: what each call returns and which blocks it leaves. -/
import Derived.Test.YtjjjidcbokbhpaaGreatFFacts
import Derived.Test.YtjjjidcbokbhpaaGreatFAh
import Derived.Test.YtjjjidcbokbhpaaGreatFAj
import Derived.Test.YtjjjidcbokbhpaaGreatFAk
import Derived.Test.YtjjjidcbokbhpaaGreatFAl
import Derived.Test.YtjjjidcbokbhpaaGreatFAp
import Derived.Test.YtjjjidcbokbhpaaGreatFAq
import Derived.Test.YtjjjidcbokbhpaaGreatFAm
import Derived.Test.YtjjjidcbokbhpaaGreatFAn
import Derived.Test.YtjjjidcbokbhpaaGreatFAo
import Derived.Test.YtjjjidcbokbhpaaGreatFAi
set_option linter.unusedVariables false
set_option linter.unusedSimpArgs false
set_option maxHeartbeats 16000000
set_option maxRecDepth 100000
namespace Go.Proofs.YtjjjidcbokbhpaaGreat.CtR
open Go Go.CT CtF

/-- A label is secret; one flows to another. -/
def secL (l : Nat) : Bool := l.testBit 0
def trustL (l : Nat) : Bool := !l.testBit 1
def subL (a b : Nat) : Bool := a ||| b == b
def kid0 : List Ex → Ex
  | [] => .mk 0 0 []
  | e :: _ => e
/-- An expression reads at a secret index. -/
def secE (vs ar : List Int) : Nat → Ex → Bool
  | 0, _ => false
  | d + 1, .mk k v ks => (k == 3 && secL (labN vs ar d (kid0 ks))) || ks.any (secE vs ar d)
/-- What the label of a statement's writing is. -/
def storedN (vs ar : List Int) (s : St1) (c : Nat) : Nat := if s.kind = 2 then labN vs ar 5 s.value ||| c ||| labN vs ar 5 s.index else labN vs ar 5 s.value ||| c
def flowR (vs ar : List Int) (s : St1) (c : Nat) : Int :=
  if s.kind = 1 then (if subL (storedN vs ar s c) (nth vs s.target).toNat then 0 else 1)
  else if s.kind = 2 then (if subL (storedN vs ar s c) (nth ar s.target).toNat then 0 else 1)
  else if s.kind = 5 then (if trustL (labN vs ar 5 s.value) && c == 0 then 0 else 2) else 0
def leakR (vs ar : List Int) (s : St1) (_ : Nat) : Int :=
  if s.kind = 3 ∧ secL (labN vs ar 5 s.value) = true then 3
  else if (s.kind = 2 ∧ secL (labN vs ar 5 s.index) = true) ∨ secE vs ar 5 s.value = true then 4 else 0
/-- No statement has a result. -/
def fineL (res : St1 → Nat → Int) (vs ar : List Int) : Nat → Nat → List St1 → Bool
  | 0, _, _ => true
  | d + 1, c, l => l.all fun s => res s c == 0 && fineL res vs ar d (ctxI vs ar s c) s.body && fineL res vs ar d (ctxI vs ar s c) s.els

end Go.Proofs.YtjjjidcbokbhpaaGreat.CtR

namespace Go.Proofs.YtjjjidcbokbhpaaGreat.CtR
open Go Go.CT CtF

/-- Two memories agree where labels lack a bit. -/
structure LowM (β : Nat) (p : Pg) (m m' : Mm) : Prop where
  lv : m.vals.length = m'.vals.length
  la : m.arrays.length = m'.arrays.length
  val : ∀ (i : Nat) (x : Int), p.vars[i]? = some x → x.toNat.testBit β = false → m.vals[i]? = m'.vals[i]?
  arr : ∀ (i : Nat) (x : Int), p.arrays[i]? = some x → x.toNat.testBit β = false → m.arrays[i]? = m'.arrays[i]?
theorem LowM.refl (β : Nat) (p : Pg) (m : Mm) : LowM β p m m := ⟨rfl, rfl, fun _ _ _ _ => rfl, fun _ _ _ _ => rfl⟩
theorem LowM.symm {β : Nat} {p : Pg} {m m' : Mm} (h : LowM β p m m') : LowM β p m' m := ⟨h.lv.symm, h.la.symm, fun i x a b => (h.val i x a b).symm, fun i x a b => (h.arr i x a b).symm⟩
theorem LowM.trans {β : Nat} {p : Pg} {a b c : Mm} (h : LowM β p a b) (h' : LowM β p b c) : LowM β p a c :=
  ⟨h.lv.trans h'.lv, h.la.trans h'.la, fun i x u v => (h.val i x u v).trans (h'.val i x u v), fun i x u v => (h.arr i x u v).trans (h'.arr i x u v)⟩
theorem arrAt_eq {m m' : Mm} {v : Int} (h : m.arrays[v.toNat]? = m'.arrays[v.toNat]?) : arrAt m v = arrAt m' v := by
  unfold arrAt; rw [List.getD_eq_getElem?_getD, List.getD_eq_getElem?_getD, h]

theorem LowM.setV {β : Nat} {p : Pg} {m m' : Mm} (h : LowM β p m m') {t x y : Int} (hx : x = y ∨ (nth p.vars t).toNat.testBit β = true) : LowM β p (setV m t x) (setV m' t y) where
  lv := by simp [CtR.setV, h.lv]
  la := h.la
  val := fun i z hz hb => by
    simp only [CtR.setV, List.getElem?_set, h.lv]
    by_cases e : t.toNat = i
    · subst e
      rcases hx with rfl | hx
      · simp [h.val _ z hz hb]
      · have : nth p.vars t = z := by unfold nth; rw [List.getD_eq_getElem?_getD, hz]; rfl
        rw [this, hb] at hx
        cases hx
    · simp only [e, if_false]; exact h.val i z hz hb
  arr := h.arr
theorem LowM.setA {β : Nat} {p : Pg} {m m' : Mm} (h : LowM β p m m') {t i j x y : Int} (hx : (i = j ∧ x = y) ∨ (nth p.arrays t).toNat.testBit β = true) : LowM β p (setA m t i x) (setA m' t j y) where
  lv := h.lv
  la := by simp [CtR.setA, h.la]
  val := h.val
  arr := fun k z hz hb => by
    simp only [CtR.setA, List.getElem?_set, h.la]
    by_cases e : t.toNat = k
    · subst e
      rcases hx with ⟨rfl, rfl⟩ | hx
      · rw [arrAt_eq (h.arr _ z hz hb), h.arr _ z hz hb]
      · have : nth p.arrays t = z := by unfold nth; rw [List.getD_eq_getElem?_getD, hz]; rfl
        rw [this, hb] at hx
        cases hx
    · simp only [e, if_false]; exact h.arr k z hz hb
theorem subL_bit {a b β : Nat} (h : subL a b = true) (ha : a.testBit β = true) : b.testBit β = true := by
  have h : a ||| b = b := by simpa [subL] using h
  rw [← h, Nat.testBit_or, ha]; rfl
theorem subL_low {a b β : Nat} (h : subL a b = true) (hb : b.testBit β = false) : a.testBit β = false := by
  cases ha : a.testBit β with
  | false => rfl
  | true => rw [subL_bit h ha] at hb; cases hb
theorem shapeV {p : Pg} {d : Nat} {k t : Int} {ix v : Ex} {c : Int} {b e : List St1} (h : stmtOK p (d + 1) (.mk k t ix v c b e) = true) : (k ≠ 4 → shape p 5 v = true) ∧ (k = 2 → shape p 5 ix = true) := by
  have hk := head_kind (stmtOK_succ h).1
  constructor
  · intro h4
    rcases hk with h | h | h | h
    · exact (right_shape h.2.2.2).1
    · exact (right_shape h.2.2.2.2.2).1
    · exact (right_shape h.2).1
    · exact absurd h.1 h4
  · intro h2
    rcases hk with h | h | h | h
    · exact absurd h.1 (by omega)
    · exact (right_shape h.2.2.2.1).1
    · exact absurd h.1 (by omega)
    · exact absurd h.1 (by omega)

end Go.Proofs.YtjjjidcbokbhpaaGreat.CtR

namespace Go.Proofs.YtjjjidcbokbhpaaGreat.CtR
open Go Go.CT CtF

/-- Two traces differ first in a release. -/
def DivT (t t' : List Ev) : Prop := ∃ (pre : List Ev) (v v' : Int) (r r' : List Ev), v ≠ v' ∧ t = pre ++ ⟨4, v⟩ :: r ∧ t' = pre ++ ⟨4, v'⟩ :: r'
theorem DivT.app {t t' : List Ev} (h : DivT t t') (a b : List Ev) : DivT (t ++ a) (t' ++ b) := by
  obtain ⟨pre, v, v', r, r', h1, rfl, rfl⟩ := h
  exact ⟨pre, v, v', r ++ a, r' ++ b, h1, by simp, by simp⟩
theorem DivT.pre {t t' : List Ev} (h : DivT t t') (a : List Ev) : DivT (a ++ t) (a ++ t') := by
  obtain ⟨pre, v, v', r, r', h1, rfl, rfl⟩ := h
  exact ⟨a ++ pre, v, v', r, r', h1, by simp, by simp⟩
def ResT (p : Pg) (x x' : Mm × List Ev) : Prop := (LowM 0 p x.1 x'.1 ∧ x.2 = x'.2) ∨ DivT x.2 x'.2
theorem ResT.seq {p : Pg} {x x' y y' : Mm × List Ev} (h : ResT p x x') (h2 : LowM 0 p x.1 x'.1 → ResT p y y') : ResT p (y.1, x.2 ++ y.2) (y'.1, x'.2 ++ y'.2) := by
  rcases h with ⟨h, e⟩ | h
  · rcases h2 h with ⟨g, e2⟩ | g
    · exact .inl ⟨g, by simp only [e, e2]⟩
    · exact .inr (by simp only [e]; exact g.pre _)
  · exact .inr (h.app _ _)
end Go.Proofs.YtjjjidcbokbhpaaGreat.CtR

namespace Go.Proofs.YtjjjidcbokbhpaaGreat.CtR
open Go Go.CT CtF

theorem le3 {a : Nat} (h : a ≤ 3) : a = 0 ∨ a = 1 ∨ a = 2 ∨ a = 3 := by omega
theorem subI (a b : Nat) (ha : a ≤ 3) (hb : b ≤ 3) : decide (((a ||| b : Nat) : Int) = (b : Int)) = subL a b := by
  rcases le3 ha with rfl | rfl | rfl | rfl <;> rcases le3 hb with rfl | rfl | rfl | rfl <;> decide
end Go.Proofs.YtjjjidcbokbhpaaGreat.CtR

namespace Go.Proofs.YtjjjidcbokbhpaaGreat.CtR
open Go Go.CT CtF

end Go.Proofs.YtjjjidcbokbhpaaGreat.CtR

namespace Go.Proofs.YtjjjidcbokbhpaaGreat.CtR
open Go Go.CT CtF

end Go.Proofs.YtjjjidcbokbhpaaGreat.CtR

namespace Go.Proofs.YtjjjidcbokbhpaaGreat.CtR
open Go Go.CT CtF

end Go.Proofs.YtjjjidcbokbhpaaGreat.CtR

namespace Go.Proofs.YtjjjidcbokbhpaaGreat.CtR
open Go Go.CT CtF

end Go.Proofs.YtjjjidcbokbhpaaGreat.CtR

namespace Go.Proofs.YtjjjidcbokbhpaaGreat.CtR
open Go Go.CT CtF

end Go.Proofs.YtjjjidcbokbhpaaGreat.CtR

namespace Go.Proofs.YtjjjidcbokbhpaaGreat.CtR
open Go Go.CT CtF

end Go.Proofs.YtjjjidcbokbhpaaGreat.CtR

namespace Go.Proofs.YtjjjidcbokbhpaaGreat.CtR
open Go Go.CT CtF

end Go.Proofs.YtjjjidcbokbhpaaGreat.CtR

namespace Go.Proofs.YtjjjidcbokbhpaaGreat.CtR
open Go Go.CT CtF

end Go.Proofs.YtjjjidcbokbhpaaGreat.CtR

namespace Go.Proofs.YtjjjidcbokbhpaaGreat.CtR
open Go Go.CT CtF

/-! ### ReleaseFree -/
end Go.Proofs.YtjjjidcbokbhpaaGreat.CtR

namespace Go.Proofs.YtjjjidcbokbhpaaGreat.CtR
open Go Go.CT CtF

end Go.Proofs.YtjjjidcbokbhpaaGreat.CtR

namespace Go.Proofs.YtjjjidcbokbhpaaGreat.CtR
open Go Go.CT CtF

end Go.Proofs.YtjjjidcbokbhpaaGreat.CtR

namespace Go.Proofs.YtjjjidcbokbhpaaGreat.CtR
open Go Go.CT CtF

/-- Labels raised. -/
structure Up (l l' : List Int) : Prop where
  len : l'.length = l.length
  lab : lab3 l'
  le : ∀ (i : Nat) (x x' : Int), l[i]? = some x → l'[i]? = some x' → x ≤ x'
theorem Up.refl {l : List Int} (h : lab3 l) : Up l l := ⟨rfl, h, fun i x x' a b => by rw [a] at b; cases b; exact Int.le_refl _⟩
theorem Up.trans {a b c : List Int} (h : Up a b) (h' : Up b c) : Up a c :=
  ⟨h'.len.trans h.len, h'.lab, fun i x x' h1 h2 => by
    have hi : i < b.length := by have := (List.getElem?_eq_some_iff.1 h1).1; rw [h.len]; exact this
    exact Int.le_trans (h.le i x b[i] h1 (by simp [hi])) (h'.le i b[i] x' (by simp [hi]) h2)⟩
theorem Up.set {l l' : List Int} (h : Up l l') {i T n : Nat} (ht : l'[i]? = some (T : Int)) (hn : n ≤ 3) (hT : T ≤ n) : Up l (l'.set i (n : Int)) :=
  ⟨by rw [List.length_set, h.len], fun x hx => by
    rcases List.mem_or_eq_of_mem_set hx with h1 | rfl
    · exact h.lab x h1
    · omega, fun j x x' h1 h2 => by
    rw [List.getElem?_set] at h2
    by_cases e : i = j
    · subst e
      have hlt := (List.getElem?_eq_some_iff.1 ht).1
      rw [if_pos rfl, if_pos hlt] at h2
      cases h2
      have := h.le i x T h1 ht
      omega
    · rw [if_neg e] at h2; exact h.le j x x' h1 h2⟩
end Go.Proofs.YtjjjidcbokbhpaaGreat.CtR

namespace Go.Proofs.YtjjjidcbokbhpaaGreat.CtD
open Go Go.CT CtF CtR

end Go.Proofs.YtjjjidcbokbhpaaGreat.CtD

namespace Go.Proofs.YtjjjidcbokbhpaaGreat.CtD
open Go Go.CT CtF CtR

theorem stmtOK_len {p q : Pg} (h1 : q.vars.length = p.vars.length) (h2 : q.arrays.length = p.arrays.length) : ∀ (d : Nat) (s : St1), stmtOK q d s = stmtOK p d s := by
  have hsh : ∀ (d : Nat) (e : Ex), CtR.shape q d e = CtR.shape p d e := by
    have hlim : ∀ k, limit q k = limit p k := fun k => by simp only [limit, h1, h2]
    intro d
    induction d with
    | zero => intro e; rfl
    | succ d ih =>
      intro e
      obtain ⟨k, v, ks⟩ := e
      have he : CtR.shape q d = CtR.shape p d := funext ih
      simp only [CtR.shape, fitsE, hlim, he]
  have hr : ∀ e, right q e = right p e := fun e => by simp only [right, hsh]
  intro d
  induction d with
  | zero => intro s; rfl
  | succ d ih =>
    intro s
    obtain ⟨k, t, ix, v, c, b, e⟩ := s
    have h3 : ∀ l : List St1, l.all (stmtOK q d) = l.all (stmtOK p d) := fun l => by congr 1; funext s; exact ih s
    simp only [stmtOK, headOK, hr, h1, h2, h3]
theorem DrP.up {p q : Pg} (h : DrP p) (h1 : CtR.Up p.vars q.vars) (h2 : CtR.Up p.arrays q.arrays) (h3 : q.body = p.body) : DrP q := by
  refine ⟨?_, by rw [h1.len]; exact h.nv, by rw [h2.len]; exact h.na, by rw [h3]; exact h.nb, by rw [h3]; exact h.sm⟩
  have hok := h.ok
  simp only [progOK, headsOK, Bool.and_eq_true, decide_eq_true_eq] at hok ⊢
  have hst : (stmtOK q 5) = stmtOK p 5 := funext fun s => stmtOK_len h1.len h2.len 5 s
  refine ⟨⟨?_, by rw [h3, hst]; exact hok.1.2⟩, by rw [h3]; exact hok.2⟩
  have hl : ∀ l : List Int, lab3 l → labs l = true := fun l hl => by
    simp only [labs, List.all_eq_true, Bool.and_eq_true, decide_eq_true_eq]
    exact hl
  obtain ⟨⟨⟨⟨g1, g2⟩, g3⟩, g4⟩, g5⟩ := hok.1.1
  rw [h1.len, h2.len]
  exact ⟨⟨⟨⟨g1, g2⟩, g3⟩, hl _ h1.lab⟩, hl _ h2.lab⟩
end Go.Proofs.YtjjjidcbokbhpaaGreat.CtD

namespace Go.Proofs.YtjjjidcbokbhpaaGreat.CtD
open Go Go.CT CtF CtR

structure LowV {α : Type} (β : Nat) (ls : List Int) (a a' : List α) : Prop where
  len : a'.length = a.length
  eq : ∀ (j : Nat) (x : Int), ls[j]? = some x → x.toNat.testBit β = false → a[j]? = a'[j]?
theorem LowV.refl {α : Type} (β : Nat) (ls : List Int) (a : List α) : LowV β ls a a := ⟨rfl, fun _ _ _ _ => rfl⟩
theorem LowV.set {α : Type} {β : Nat} {ls : List Int} {a a' : List α} (h : LowV β ls a a') {i : Nat} {x : Int} (hx : ls[i]? = some x) (hb : x.toNat.testBit β = true) (v : α) : LowV β ls a (a'.set i v) :=
  ⟨by rw [List.length_set, h.len], fun j y hy hf => by
    rw [List.getElem?_set]
    by_cases e : i = j
    · subst e; rw [hx] at hy; cases hy; rw [hb] at hf; cases hf
    · rw [if_neg e]; exact h.eq j y hy hf⟩
end Go.Proofs.YtjjjidcbokbhpaaGreat.CtD

namespace Go.Proofs.YtjjjidcbokbhpaaGreat.CtR
open Go Go.CT CtF

/-- The sets of all cells, of the trace and of the releases, as bits. -/
structure Dp where
  sets : List Nat
  tr : Nat
  re : Nat
def dat (s : List Nat) (i : Nat) : Nat := s.getD i 0
/-- A cell's set has a bit. -/
def bt (k : Nat) (s : List Nat) (i : Nat) : Bool := (dat s i).testBit k
theorem dat_set (s : List Nat) (i j x : Nat) : dat (s.set i x) j = if i = j ∧ i < s.length then x else dat s j := by
  unfold dat
  rw [List.getD_eq_getElem?_getD, List.getD_eq_getElem?_getD, List.getElem?_set]
  by_cases h : i = j
  · subst h
    by_cases h2 : i < s.length <;> simp [h2]
  · simp [h]
end Go.Proofs.YtjjjidcbokbhpaaGreat.CtR

namespace Go.Proofs.YtjjjidcbokbhpaaGreat.CtR
open Go Go.CT CtF

/-- Trace and releases only grow. -/
def Le0 (k : Nat) (s s' : Dp) : Prop := (s'.tr.testBit k = false → s.tr.testBit k = false) ∧ (s'.re.testBit k = false → s.re.testBit k = false)
theorem Le0.trans {k : Nat} {a b c : Dp} (h : Le0 k a b) (h' : Le0 k b c) : Le0 k a c := ⟨fun x => h.1 (h'.1 x), fun x => h.2 (h'.2 x)⟩
/-- In a context that depends on an input, what does not depend on it afterwards is unchanged. -/
structure Conf (k nv : Nat) (s' s : List Nat) (m m' : Mm) : Prop where
  lv : m.vals.length = m'.vals.length
  la : m.arrays.length = m'.arrays.length
  low : ∀ i, bt k s' i = false → bt k s i = false
  val : ∀ i, i < nv → bt k s' i = false → m.vals[i]? = m'.vals[i]?
  arr : ∀ i, bt k s' (nv + i) = false → m.arrays[i]? = m'.arrays[i]?
theorem Conf.refl (k nv : Nat) (s : List Nat) (m : Mm) : Conf k nv s s m m := ⟨rfl, rfl, fun _ h => h, fun _ _ _ => rfl, fun _ _ => rfl⟩
theorem Conf.trans {k nv : Nat} {a b c : List Nat} {m m' m'' : Mm} (h : Conf k nv b a m m') (h' : Conf k nv c b m' m'') : Conf k nv c a m m'' :=
  ⟨h.lv.trans h'.lv, h.la.trans h'.la, fun i x => h.low i (h'.low i x), fun i hi x => (h.val i hi (h'.low i x)).trans (h'.val i hi x), fun i x => (h.arr i (h'.low _ x)).trans (h'.arr i x)⟩
end Go.Proofs.YtjjjidcbokbhpaaGreat.CtR

namespace Go.Proofs.YtjjjidcbokbhpaaGreat.CtD
open Go Go.CT CtF CtR

theorem sownLE (ks : List Ex) (hlk : ks.length ≤ 3) (ih : ∀ e ∈ ks, DC Tryz.prog 227 [.agg e.cells] [] (fun r h => r = .agg e.cells ∧ h = [])) : DC Tryz.prog 243 [.c (.isl 3 (Ex.cellsL ks))] [] (fun r h => r = .c (.isl 3 (Ex.cellsL ks)) ∧ h = []) := by
  have hmx := mx_eq
  refine dcZ Tryz.func243 ?_
  simp (maxSteps := 9999999) only [go_sem]
  iterate 2 ((try (refine drvZ Tryz.func243 ?_; simp (maxSteps := 9999999) only [go_sem])); (try ((with_reducible refine And.intro ?_ ?_) <;> (repeat' with_reducible apply And.intro) <;> try exact sd)))
  refine Go.loopQ (fun i : Nat => [(3, .c (.msl 64 3 0 i)), (7, .c (.isl 3 (Ex.cellsL ks))), (8, DI .i64 ks.length), (9, DI .i64 i)]) (fun i => [(64, some (exC (ks.take i)))])
    4096 (fun i => i ≤ ks.length) (fun i => ks.length - i) ?_ 0 some [] _ (Nat.zero_le _) ?_
  · intro i hi again
    rcases Nat.lt_or_ge i ks.length with hlt | hge
    · obtain ⟨⟨k', v', ks'⟩, hx⟩ : ∃ x, ks[i]? = some x := ⟨ks[i], by simp [hlt]⟩
      have hsx : ks.take (i + 1) = ks.take i ++ [.mk k' v' ks'] := by rw [List.take_add_one, hx]; rfl
      have hel : (exC (ks.take i)).length = i * 3 := by rw [exC_len, List.length_take]; congr 1; omega
      have hih := ih _ (List.mem_of_getElem? hx)
      refine drvL Tryz.func243 ?_
      simp (maxSteps := 9999999) only [go_sem, hx, hlt]
      iterate 6 ((try (refine drvZ Tryz.func243 ?_; simp (maxSteps := 9999999) only [go_sem, hx, hlt])); (try ((with_reducible refine And.intro ?_ ?_) <;> (repeat' with_reducible apply And.intro) <;> try exact sd)); (try first | refine XK.p hih ok227 ?_ | refine XK.gp hih ok227 ?_))
      refine again (i + 1) (fun j => if j = 64 then some 4672 else some j) [] _ hlt (by omega) ?_
      simp (maxSteps := 9999999) only [go_sem, TmOK, DM, DMs, CM, CMs, forall_eq, exists_eq_left, Mq, HpOK, LowOK, hsx, exC_snoc]
      simp
      exact CMs.kf (kf_app (exC_kf _) (by simp [kf]))
    · have hn : ¬ i < ks.length := by omega
      obtain rfl : i = ks.length := by omega
      refine drvL Tryz.func243 ?_
      simp (maxSteps := 9999999) only [go_sem, hn, List.take_length]
      iterate 2 ((try (refine drvZ Tryz.func243 ?_; simp (maxSteps := 9999999) only [go_sem, hn, List.take_length])); (try ((with_reducible refine And.intro ?_ ?_) <;> (repeat' with_reducible apply And.intro) <;> try exact sd)))
      refine RetOb.ofQ (fun j => none) [64] (.c (.isl 3 (Ex.cellsL ks))) [] ?_ ⟨rfl, rfl⟩ (by simp)
      have g1 : (Ex.cellsL ks).flatten = exC ks := by rw [Ex.cellsL_eq]; rfl
      have g2 : ∀ x ∈ Ex.cellsL ks, x.length = 3 := fun x hx => by rw [Ex.cellsL_eq] at hx; obtain ⟨e, _, rfl⟩ := List.mem_map.1 hx; exact Ex.cells_len e
      have g3 : ∀ x ∈ Ex.cellsL ks, ∀ c ∈ x, kf c = true := fun x hx => by rw [Ex.cellsL_eq] at hx; obtain ⟨e, _, rfl⟩ := List.mem_map.1 hx; exact ex_kf e
      simp only [enumL, hOf, DM, DMs, CM, CMs, HpOK, LowOK, upd, Ex.cells, Ex.cellsL_length, g1]
      first | (simp; exact ⟨g2, g3⟩) | (simp [g2]; exact g3) | exact ⟨g2, g3⟩
  · simp (maxSteps := 9999999) only [go_sem, TmOK, DM, DMs, CM, CMs, forall_eq, exists_eq_left, Mq, HpOK, LowOK]
    simp [exC, CMs]
theorem sownE (e : Ex) (he : SmE e) : DC Tryz.prog 227 [.agg e.cells] [] (fun r h => r = .agg e.cells ∧ h = []) := by
  have hmx := mx_eq
  induction he with
  | mk k v ks hlen hall ih =>
    have ih := sownLE ks hlen ih
    refine dcZ Tryz.func227 ?_
    simp (maxSteps := 9999999) only [go_sem]
    iterate 4 ((try (refine drvZ Tryz.func227 ?_; simp (maxSteps := 9999999) only [go_sem])); (try ((with_reducible refine And.intro ?_ ?_) <;> (repeat' with_reducible apply And.intro) <;> try exact sd)); (try first | refine XK.p ih ok243 ?_ | refine XK.gp ih ok243 ?_))
    exact RetOb.plain ⟨rfl, rfl⟩ (by simp [kD, kf])
theorem sownSO (k t : Int) (ix v : Ex) (c : Int) (b e : List St1) (h1 : SmE ix) (h2 : SmE v) (hb : DC Tryz.prog 116 [.c (.isl 11 (St1.cellsL b))] [] (fun r h => r = .c (.isl 11 (St1.cellsL b)) ∧ h = []))
    (he : DC Tryz.prog 116 [.c (.isl 11 (St1.cellsL e))] [] (fun r h => r = .c (.isl 11 (St1.cellsL e)) ∧ h = [])) : DC Tryz.prog 179 [.agg (St1.cells (.mk k t ix v c b e))] [] (fun r h => r = .agg (St1.cells (.mk k t ix v c b e)) ∧ h = []) := by
  have hmx := mx_eq
  obtain ⟨ik, iv, iks⟩ := ix
  obtain ⟨vk, vv, vks⟩ := v
  have hi := sownE _ h1
  have hv := sownE _ h2
  simp only [Ex.cells] at hi hv
  refine dcZ Tryz.func179 ?_
  simp (maxSteps := 9999999) only [go_sem]
  iterate 8 ((try (refine drvZ Tryz.func179 ?_; simp (maxSteps := 9999999) only [go_sem])); (try ((with_reducible refine And.intro ?_ ?_) <;> (repeat' with_reducible apply And.intro) <;> try exact sd)); (try first | refine XK.p hi ok227 ?_ | refine XK.gp hi ok227 ?_ | refine XK.p hv ok227 ?_ | refine XK.gp hv ok227 ?_ | refine XK.p hb ok116 ?_ | refine XK.gp hb ok116 ?_ | refine XK.p he ok116 ?_ | refine XK.gp he ok116 ?_))
  exact RetOb.plain ⟨rfl, rfl⟩ (by simp [kD, kf])
theorem sownLS (l : List St1) (hl : l.length ≤ 1000000) (ih : ∀ s ∈ l, DC Tryz.prog 179 [.agg s.cells] [] (fun r h => r = .agg s.cells ∧ h = [])) : DC Tryz.prog 116 [.c (.isl 11 (St1.cellsL l))] [] (fun r h => r = .c (.isl 11 (St1.cellsL l)) ∧ h = []) := by
  have hmx := mx_eq
  refine dcZ Tryz.func116 ?_
  simp (maxSteps := 9999999) only [go_sem]
  iterate 2 ((try (refine drvZ Tryz.func116 ?_; simp (maxSteps := 9999999) only [go_sem])); (try ((with_reducible refine And.intro ?_ ?_) <;> (repeat' with_reducible apply And.intro) <;> try exact sd)))
  refine Go.loopQ (fun i : Nat => [(3, .c (.msl 64 11 0 i)), (7, .c (.isl 11 (St1.cellsL l))), (8, DI .i64 l.length), (9, DI .i64 i)]) (fun i => [(64, some (stC (l.take i)))])
    4096 (fun i => i ≤ l.length) (fun i => l.length - i) ?_ 0 some [] _ (Nat.zero_le _) ?_
  · intro i hi again
    rcases Nat.lt_or_ge i l.length with hlt | hge
    · obtain ⟨⟨k, t, ⟨ik, iv, iks⟩, ⟨vk, vv, vks⟩, c, b, e⟩, hx⟩ : ∃ x, l[i]? = some x := ⟨l[i], by simp [hlt]⟩
      have hsx : l.take (i + 1) = l.take i ++ [.mk k t (.mk ik iv iks) (.mk vk vv vks) c b e] := by rw [List.take_add_one, hx]; rfl
      have hel : (stC (l.take i)).length = i * 11 := by rw [stC_len, List.length_take]; congr 1; omega
      have hih := ih _ (List.mem_of_getElem? hx)
      simp only [St1.cells, Ex.cells, List.cons_append, List.nil_append] at hih
      refine drvL Tryz.func116 ?_
      simp (maxSteps := 9999999) only [go_sem, hx, hlt]
      iterate 6 ((try (refine drvZ Tryz.func116 ?_; simp (maxSteps := 9999999) only [go_sem, hx, hlt])); (try ((with_reducible refine And.intro ?_ ?_) <;> (repeat' with_reducible apply And.intro) <;> try exact sd)); (try first | refine XK.p hih ok179 ?_ | refine XK.gp hih ok179 ?_))
      refine again (i + 1) (fun j => if j = 64 then some 4672 else some j) [] _ hlt (by omega) ?_
      simp (maxSteps := 9999999) only [go_sem, TmOK, DM, DMs, CM, CMs, forall_eq, exists_eq_left, Mq, HpOK, LowOK, hsx, stC_snoc, List.cons_append, List.nil_append]
      simp
      exact CMs.kf (kf_app (stC_kf _) (by simp [kf]))
    · have hn : ¬ i < l.length := by omega
      obtain rfl : i = l.length := by omega
      refine drvL Tryz.func116 ?_
      simp (maxSteps := 9999999) only [go_sem, hn, List.take_length]
      iterate 2 ((try (refine drvZ Tryz.func116 ?_; simp (maxSteps := 9999999) only [go_sem, hn, List.take_length])); (try ((with_reducible refine And.intro ?_ ?_) <;> (repeat' with_reducible apply And.intro) <;> try exact sd)))
      refine RetOb.ofQ (fun j => none) [64] (.c (.isl 11 (St1.cellsL l))) [] ?_ ⟨rfl, rfl⟩ (by simp)
      have g1 : (St1.cellsL l).flatten = stC l := by rw [St1.cellsL_eq]; rfl
      have g2 : ∀ x ∈ St1.cellsL l, x.length = 11 := fun x hx => by rw [St1.cellsL_eq] at hx; obtain ⟨e, _, rfl⟩ := List.mem_map.1 hx; exact St1.cells_len e
      have g3 : ∀ x ∈ St1.cellsL l, ∀ c ∈ x, kf c = true := fun x hx => by rw [St1.cellsL_eq] at hx; obtain ⟨e, _, rfl⟩ := List.mem_map.1 hx; exact st_kf e
      simp only [enumL, hOf, DM, DMs, CM, CMs, HpOK, LowOK, upd, St1.cellsL_length, g1]
      first | (simp; exact ⟨g2, g3⟩) | (simp [g2]; exact g3) | exact ⟨g2, g3⟩
  · simp (maxSteps := 9999999) only [go_sem, TmOK, DM, DMs, CM, CMs, forall_eq, exists_eq_left, Mq, HpOK, LowOK]
    simp [stC, CMs]
end Go.Proofs.YtjjjidcbokbhpaaGreat.CtD

namespace Go.Proofs.YtjjjidcbokbhpaaGreat.CtR
open Go Go.CT CtF

/-! A checked program's dependencies keep to its labels. -/
/-- A cell's label has a bit. -/
def hiC (β : Nat) (vs ar : List Int) (i : Nat) : Bool := if i < vs.length then (nth vs (i : Nat)).toNat.testBit β else (nth ar ((i - vs.length : Nat) : Int)).toNat.testBit β
/-- A set has no cell whose label has the bit. -/
def LoN (β : Nat) (vs ar : List Int) (a : Nat) : Prop := ∀ k, hiC β vs ar k = true → a.testBit k = false
theorem LoN.or {β : Nat} {vs ar : List Int} {a b : Nat} (h : LoN β vs ar a) (h' : LoN β vs ar b) : LoN β vs ar (a ||| b) := fun k hk => by
  rw [Nat.testBit_or, h k hk, h' k hk]; rfl
theorem LoN.zero {β : Nat} {vs ar : List Int} : LoN β vs ar 0 := fun k _ => by simp
def Sec (β : Nat) (vs ar : List Int) (s : List Nat) : Prop := ∀ i, hiC β vs ar i = false → LoN β vs ar (dat s i)
theorem Sec.set {β : Nat} {vs ar : List Int} {s : List Nat} (h : Sec β vs ar s) {i x : Nat} (hx : hiC β vs ar i = false → LoN β vs ar x) : Sec β vs ar (s.set i x) := fun j hj => by
  rw [dat_set]
  by_cases e : i = j ∧ i < s.length
  · rw [if_pos e]; obtain ⟨rfl, _⟩ := e; exact hx hj
  · rw [if_neg e]; exact h j hj
end Go.Proofs.YtjjjidcbokbhpaaGreat.CtR

namespace Go.Proofs.YtjjjidcbokbhpaaGreat.CtR
open Go Go.CT CtF

def idxE (q : Ex → Bool) : List Ex → Int → Int
  | [], _ => -1
  | x :: r, i => if q x then i else idxE q r (i + 1)
theorem idxE_any (q : Ex → Bool) : ∀ (xs : List Ex) (i : Int), 0 ≤ i → decide (0 ≤ idxE q xs i) = xs.any q
  | [], i, _ => by simp [idxE]
  | x :: r, i, h => by
    unfold idxE
    by_cases hq : q x = true
    · simp [hq, h]
    · simp only [hq, Bool.false_eq_true, if_false, List.any_cons, Bool.not_eq_true] at *
      rw [idxE_any q r (i + 1) (by omega)]; simp [hq]
end Go.Proofs.YtjjjidcbokbhpaaGreat.CtR

namespace Go.Proofs.YtjjjidcbokbhpaaGreat.CtL
open Go Go.CT CtF CtR
open CtD (rel rel_app)

/-! Plain: linearization. -/
def e0 : Ex := .mk 0 0 []
def cE (n : Int) : Ex := .mk 1 n []
def vE (v : Int) : Ex := .mk 2 v []
def rdE (a : Int) (i : Ex) : Ex := .mk 3 a [i]
def bE (k : Int) (a b : Ex) : Ex := .mk k 0 [a, b]
def hitE (i : Ex) (k : Int) : Ex := bE 9 (bE 7 i (cE 3)) (cE k)
/-! Shapes. -/
theorem shape_of {p : Pg} {d : Nat} {k v : Int} {ks : List Ex} (h1 : fitsE p k v ks.length = true) (h2 : ∀ x ∈ ks, CtR.shape p d x = true) (h3 : k = 3 → headAtom ks = true) : CtR.shape p (d + 1) (.mk k v ks) = true := by
  simp only [CtR.shape, Bool.and_eq_true, List.all_eq_true, Bool.or_eq_true]
  refine ⟨⟨h1, h2⟩, ?_⟩
  by_cases hk : k = 3
  · exact .inr (h3 hk)
  · exact .inl (by simpa using hk)
theorem limit_le {p q : Pg} (h1 : p.vars.length ≤ q.vars.length) (h2 : p.arrays.length = q.arrays.length) (k : Int) : limit p k ≤ limit q k := by
  unfold limit; repeat' split
  all_goals omega
theorem shape_mono {p q : Pg} (h1 : p.vars.length ≤ q.vars.length) (h2 : p.arrays.length = q.arrays.length) : ∀ (d : Nat) (e : Ex), CtR.shape p d e = true → CtR.shape q d e = true
  | 0, _, h => by simp [CtR.shape] at h
  | d + 1, .mk k v ks, h => by
    obtain ⟨g1, g2, g3⟩ := shape_succ h
    have hl := limit_le h1 h2 k
    obtain ⟨a, b, c, e⟩ := fits_len g1
    exact shape_of (fitsE_true b c (by omega)) (fun x hx => shape_mono h1 h2 d x (g2 x hx)) g3
theorem shape_up {p : Pg} : ∀ (d : Nat) (e : Ex), CtR.shape p d e = true → CtR.shape p (d + 1) e = true
  | 0, _, h => by simp [CtR.shape] at h
  | d + 1, .mk k v ks, h => by
    obtain ⟨g1, g2, g3⟩ := shape_succ h
    exact shape_of g1 (fun x hx => shape_up d x (g2 x hx)) g3
theorem evalE_up {p : Pg} {m : Mm} : ∀ (d : Nat) (e : Ex), CtR.shape p d e = true → evalE m (d + 1) e = evalE m d e
  | 0, _, h => by simp [CtR.shape] at h
  | d + 1, .mk k v ks, h => by
    obtain ⟨g1, g2, g3⟩ := shape_succ h
    have e1 : (ks.map fun e => (evalE m (d + 1) e).1) = ks.map fun e => (evalE m d e).1 := List.map_congr_left fun x hx => by rw [evalE_up d x (g2 x hx)]
    have e2 : (ks.map fun e => (evalE m (d + 1) e).2) = ks.map fun e => (evalE m d e).2 := List.map_congr_left fun x hx => by rw [evalE_up d x (g2 x hx)]
    rw [evalE, evalE]
    simp only [e1, e2]
theorem nth_app {a b : List Int} {v : Int} (h0 : 0 ≤ v) (h : v < a.length) : nth (a ++ b) v = nth a v := by
  unfold nth
  rw [List.getD_eq_getElem?_getD, List.getD_eq_getElem?_getD, List.getElem?_append_left (by omega)]
theorem read_kid {p : Pg} {d : Nat} {v : Int} {ks : List Ex} (h : CtR.shape p (d + 1) (.mk 3 v ks) = true) : ∃ a, ks = [a] ∧ CtR.shape p d a = true ∧ atom a = true ∧ 0 ≤ v ∧ v < p.arrays.length := by
  obtain ⟨g1, g2, g3⟩ := shape_succ h
  obtain ⟨_, b, c, e⟩ := fits_len g1
  have g3 := g3 rfl
  match ks, b, g2, g3 with
  | [a], _, g2, g3 => exact ⟨a, rfl, g2 a (by simp), g3, c, by simpa [limit] using e⟩
  | [], b, _, _ => simp [arity] at b
  | _ :: _ :: r, b, _, _ => simp [arity] at b; omega
theorem atom_mk {p : Pg} {d : Nat} {a : Ex} (hs : CtR.shape p d a = true) (ha : atom a = true) : ∃ k v, a = .mk k v [] ∧ (k = 1 ∧ 0 ≤ v ∧ v ≤ 255 ∨ k = 2 ∧ 0 ≤ v ∧ v < p.vars.length) := by
  match d, a, hs with
  | 0, _, hs => simp [CtR.shape] at hs
  | d + 1, .mk k v ks, hs =>
    obtain ⟨g1, g2, g3⟩ := shape_succ hs
    obtain ⟨_, b, c, e⟩ := fits_len g1
    have hk : k = 1 ∨ k = 2 := by simpa [atom, Ex.kind] using ha
    refine ⟨k, v, ?_, ?_⟩
    · have : ks.length = 0 := by rcases hk with rfl | rfl <;> simp [arity] at b <;> simpa using b
      rw [List.length_eq_zero_iff.1 this]
    · rcases hk with rfl | rfl
      · exact .inl ⟨rfl, c, by simp [limit] at e; omega⟩
      · exact .inr ⟨rfl, c, by simpa [limit] using e⟩
/-! Memories that agree on the first variables. -/
structure Agr (n : Nat) (m m' : Mm) : Prop where
  ar : m.arrays = m'.arrays
  va : ∀ i, i < n → m.vals[i]? = m'.vals[i]?
theorem Agr.refl (n : Nat) (m : Mm) : Agr n m m := ⟨rfl, fun _ _ => rfl⟩
theorem Agr.symm {n : Nat} {m m' : Mm} (h : Agr n m m') : Agr n m' m := ⟨h.ar.symm, fun i hi => (h.va i hi).symm⟩
theorem Agr.trans {n : Nat} {a b c : Mm} (h : Agr n a b) (g : Agr n b c) : Agr n a c := ⟨h.ar.trans g.ar, fun i hi => (h.va i hi).trans (g.va i hi)⟩
theorem Agr.le {n k : Nat} {m m' : Mm} (h : Agr n m m') (hk : k ≤ n) : Agr k m m' := ⟨h.ar, fun i hi => h.va i (by omega)⟩
theorem Agr.nth {n : Nat} {m m' : Mm} (h : Agr n m m') {v : Int} (h0 : 0 ≤ v) (hv : v < n) : CtR.nth m.vals v = CtR.nth m'.vals v := by
  unfold CtR.nth
  rw [List.getD_eq_getElem?_getD, List.getD_eq_getElem?_getD, h.va _ (by omega)]
theorem Agr.setV {n : Nat} {m : Mm} {w : Nat} {x : Int} (hw : n ≤ w) : Agr n m (CtR.setV m w x) := ⟨rfl, fun i hi => by
  simp only [CtR.setV, Int.toNat_natCast, List.getElem?_set]
  rw [if_neg (by omega)]⟩
/-! What the printed expressions are worth. -/
theorem eval_c {m : Mm} {d : Nat} {n : Int} : evalE m (d + 1) (cE n) = (n, []) := by simp [evalE, cE]
/-! Expressions. -/
end Go.Proofs.YtjjjidcbokbhpaaGreat.CtL

namespace Go.Proofs.YtjjjidcbokbhpaaGreat.CtL
open Go Go.CT CtF CtR
open CtD (rel rel_app)

/-! Plain: folding of expressions. -/
def quietE : Nat → Ex → Bool
  | 0, _ => true
  | d + 1, .mk k v ks => !(k == 3) && ks.all (quietE d)
def isC (e : Ex) : Bool := e.kind == 1
def isN (e : Ex) (n : Int) : Bool := e.kind == 1 && e.value == n
def binN (k v : Int) (a b : Ex) : Ex :=
  if isC a && isC b then cE (bin k a.value b.value)
  else if ((k == 4 || k == 8) && isN a 0) || (k == 6 && isN a 1) then b
  else if ((k == 4 || k == 8 || k == 5) && isN b 0) || (k == 6 && isN b 1) then a
  else .mk k v [a, b]
def selN (d : Nat) (v : Int) (a b c : Ex) : Ex :=
  if isC a && quietE d b && quietE d c then (if a.value ≠ 0 then b else c) else .mk 11 v [a, b, c]
def foldN (d : Nat) (k v : Int) : List Ex → Ex
  | [a, b] => binN k v a b
  | [a, b, c] => selN d v a b c
  | ks => .mk k v ks
def foldE : Nat → Ex → Ex
  | 0, e => e
  | d + 1, .mk k v ks => foldN d k v (ks.map (foldE d))

/-- A valid expression's forms. -/
theorem shape_form {p : Pg} {d : Nat} {k v : Int} {ks : List Ex} (h : CtR.shape p (d + 1) (.mk k v ks) = true) :
    ((k = 1 ∧ 0 ≤ v ∧ v < 256 ∨ k = 2) ∧ ks = []) ∨ (∃ a, k = 3 ∧ ks = [a] ∧ CtR.shape p d a = true ∧ atom a = true) ∨ (∃ a b, 4 ≤ k ∧ k ≤ 10 ∧ ks = [a, b] ∧ CtR.shape p d a = true ∧ CtR.shape p d b = true)
    ∨ (∃ a b c, k = 11 ∧ ks = [a, b, c] ∧ CtR.shape p d a = true ∧ CtR.shape p d b = true ∧ CtR.shape p d c = true) := by
  obtain ⟨g1, g2, g3⟩ := shape_succ h
  obtain ⟨_, b, c, e⟩ := fits_len g1
  by_cases k1 : k = 1 ∨ k = 2
  · left
    have : ks.length = 0 := by rcases k1 with rfl | rfl <;> simp [arity] at b <;> simpa using b
    refine ⟨?_, List.length_eq_zero_iff.1 this⟩
    rcases k1 with rfl | rfl
    · exact .inl ⟨rfl, c, by simpa [limit] using e⟩
    · exact .inr rfl
  by_cases k3 : k = 3
  · subst k3
    obtain ⟨a, h1, h2, h3, _⟩ := read_kid h
    exact .inr (.inl ⟨a, rfl, h1, h2, h3⟩)
  by_cases k4 : 4 ≤ k ∧ k ≤ 10
  · have : ks.length = 2 := by
      have : arity k = 2 := by unfold arity; rw [if_neg k1, if_neg k3, if_pos k4]
      omega
    match ks, this with
    | [x, y], _ => exact .inr (.inr (.inl ⟨x, y, k4.1, k4.2, rfl, g2 x (by simp), g2 y (by simp)⟩))
  by_cases k11 : k = 11
  · subst k11
    have : ks.length = 3 := by simp [arity] at b; omega
    match ks, this with
    | [x, y, z], _ => exact .inr (.inr (.inr ⟨x, y, z, rfl, rfl, g2 x (by simp), g2 y (by simp), g2 z (by simp)⟩))
  · have : arity k = -1 := by unfold arity; rw [if_neg k1, if_neg k3, if_neg k4, if_neg k11]
    omega
theorem shape_c {p : Pg} {d : Nat} {n : Int} (h0 : 0 ≤ n) (h1 : n ≤ 255) : CtR.shape p (d + 1) (cE n) = true :=
  shape_of (fitsE_true (by simp [arity]) h0 (by simp [limit]; omega)) (by simp) (fun h => by simp at h)
/-- A valid constant. -/
theorem isC_form {p : Pg} {d : Nat} {a : Ex} (hs : CtR.shape p d a = true) (h : isC a = true) : ∃ n, a = cE n ∧ 0 ≤ n ∧ n ≤ 255 := by
  have ha : atom a = true := by simp [isC] at h; simp [atom, h]
  obtain ⟨k, v, rfl, hk⟩ := atom_mk hs ha
  simp [isC, Ex.kind] at h
  exact ⟨v, by rw [h]; rfl, by omega, by omega⟩
theorem isN_form {p : Pg} {d : Nat} {a : Ex} {n : Int} (hs : CtR.shape p d a = true) (h : isN a n = true) : a = cE n := by
  simp only [isN, Bool.and_eq_true, beq_iff_eq] at h
  obtain ⟨x, rfl, _⟩ := isC_form hs (by simp [isC, h.1])
  rw [← h.2]; rfl
theorem cnt_up {p : Pg} : ∀ (d : Nat) (e : Ex), CtR.shape p d e = true → cnt (d + 1) e = cnt d e
  | 0, _, h => by simp [CtR.shape] at h
  | d + 1, .mk k v ks, h => by
    obtain ⟨g1, g2, g3⟩ := shape_succ h
    have e1 : (ks.map (cnt (d + 1))) = ks.map (cnt d) := List.map_congr_left fun x hx => cnt_up d x (g2 x hx)
    rw [cnt, cnt, e1]
theorem fold_atom {p : Pg} {d d' : Nat} {a : Ex} (hs : CtR.shape p d a = true) (ha : atom a = true) : foldE d' a = a := by
  obtain ⟨k, v, rfl, hk⟩ := atom_mk hs ha
  match d' with
  | 0 => rfl
  | d' + 1 => rfl
theorem quiet_ev {p : Pg} {m : Mm} : ∀ (d : Nat) (e : Ex), CtR.shape p d e = true → quietE d e = true → (evalE m d e).2 = []
  | 0, _, h, _ => by simp [CtR.shape] at h
  | d + 1, .mk k v ks, h, hq => by
    obtain ⟨g1, g2, g3⟩ := shape_succ h
    simp only [quietE, Bool.and_eq_true, List.all_eq_true, Bool.not_eq_true', beq_eq_false_iff_ne] at hq
    have e2 : (ks.map fun e => (evalE m d e).2).flatten = [] := by
      rw [List.flatten_eq_nil_iff]
      intro l hl
      obtain ⟨x, hx, rfl⟩ := List.mem_map.1 hl
      exact quiet_ev d x (g2 x hx) (hq.2 x hx)
    simp only [evalE, e2, hq.1, if_false]
    repeat' split
    all_goals rfl
theorem bin_c {p : Pg} {k a b : Int} (ha : 0 ≤ a ∧ a ≤ 255) (hb : 0 ≤ b ∧ b ≤ 255) : 0 ≤ bin k a b ∧ bin k a b ≤ 255 := bin_range ha hb
/-- What folding a node gives. -/
theorem binN_ok {p : Pg} {m : Mm} (hm : MemFits p m) {d : Nat} {k v : Int} {a b : Ex} (hk : 4 ≤ k ∧ k ≤ 10) (ha : CtR.shape p d a = true) (hb : CtR.shape p d b = true) (h : CtR.shape p (d + 1) (.mk k v [a, b]) = true) :
    evalE m (d + 1) (binN k v a b) = evalE m (d + 1) (.mk k v [a, b]) := by
  have ra := evalE_range hm d a ha
  have rb := evalE_range hm d b hb
  have hd : ∃ d', d = d' + 1 := by
    match d, ha with
    | 0, ha => simp [CtR.shape] at ha
    | d' + 1, _ => exact ⟨d', rfl⟩
  obtain ⟨d', rfl⟩ := hd
  have hE : evalE m (d' + 1 + 1) (.mk k v [a, b]) = (bin k (evalE m (d' + 1) a).1 (evalE m (d' + 1) b).1, (evalE m (d' + 1) a).2 ++ (evalE m (d' + 1) b).2) := by
    rw [evalE]; simp [show k ≠ 1 by omega, show k ≠ 2 by omega, show k ≠ 3 by omega, show k ≠ 11 by omega]
  have ua := evalE_up (m := m) _ a ha
  have ub := evalE_up (m := m) _ b hb
  unfold binN
  split
  · rename_i hc
    simp only [Bool.and_eq_true] at hc
    obtain ⟨x, rfl, _⟩ := isC_form ha hc.1
    obtain ⟨y, rfl, _⟩ := isC_form hb hc.2
    rw [hE, eval_c, eval_c, eval_c]; rfl
  split
  · rename_i _ hc
    rw [hE, ub]
    simp only [Bool.or_eq_true, Bool.and_eq_true, beq_iff_eq] at hc
    rcases hc with ⟨hk, hn⟩ | ⟨hk, hn⟩
    · rw [isN_form ha hn, eval_c]
      refine Prod.ext ?_ rfl
      rcases hk with rfl | rfl
      · simp [bin]; omega
      · simp [bin]; omega
    · rw [isN_form ha hn, eval_c]
      refine Prod.ext ?_ rfl
      subst hk
      simp [bin]; omega
  split
  · rename_i _ _ hc
    rw [hE, ua]
    simp only [Bool.or_eq_true, Bool.and_eq_true, beq_iff_eq] at hc
    rcases hc with ⟨hk, hn⟩ | ⟨hk, hn⟩
    · rw [isN_form hb hn, eval_c]
      refine Prod.ext ?_ (by simp)
      rcases hk with (rfl | rfl) | rfl
      · simp [bin]; omega
      · simp [bin]; omega
      · simp [bin]; omega
    · rw [isN_form hb hn, eval_c]
      refine Prod.ext ?_ (by simp)
      subst hk
      simp [bin]; omega
  · rfl
theorem binN_shape {p : Pg} {d : Nat} {k v : Int} {a b : Ex} (ha : CtR.shape p d a = true) (hb : CtR.shape p d b = true) (h : CtR.shape p (d + 1) (.mk k v [a, b]) = true) :
    CtR.shape p (d + 1) (binN k v a b) = true ∧ cnt (d + 1) (binN k v a b) ≤ 1 + cnt d a + cnt d b := by
  have ua := cnt_up d a ha
  have ub := cnt_up d b hb
  unfold binN
  split
  · rename_i hc
    simp only [Bool.and_eq_true] at hc
    obtain ⟨x, rfl, hx⟩ := isC_form ha hc.1
    obtain ⟨y, rfl, hy⟩ := isC_form hb hc.2
    have := bin_c (p := p) (k := k) hx hy
    exact ⟨shape_c this.1 this.2, by simp [cnt, cE]; omega⟩
  split
  · exact ⟨shape_up d b hb, by omega⟩
  split
  · exact ⟨shape_up d a ha, by omega⟩
  · exact ⟨h, by simp [cnt]; omega⟩
theorem selN_ok {p : Pg} {m : Mm} {d : Nat} {v : Int} {a b c : Ex} (ha : CtR.shape p d a = true) (hb : CtR.shape p d b = true) (hc : CtR.shape p d c = true) :
    evalE m (d + 1) (selN d v a b c) = evalE m (d + 1) (.mk 11 v [a, b, c]) := by
  have hd : ∃ d', d = d' + 1 := by
    match d, ha with
    | 0, ha => simp [CtR.shape] at ha
    | d' + 1, _ => exact ⟨d', rfl⟩
  obtain ⟨d', rfl⟩ := hd
  have hE : evalE m (d' + 1 + 1) (.mk 11 v [a, b, c]) = (if (evalE m (d' + 1) a).1 ≠ 0 then (evalE m (d' + 1) b).1 else (evalE m (d' + 1) c).1, (evalE m (d' + 1) a).2 ++ ((evalE m (d' + 1) b).2 ++ (evalE m (d' + 1) c).2)) := by
    rw [evalE]; simp
  unfold selN
  split
  · rename_i hq
    simp only [Bool.and_eq_true] at hq
    obtain ⟨x, rfl, _⟩ := isC_form ha hq.1.1
    have qb := quiet_ev (m := m) _ b hb hq.1.2
    have qc := quiet_ev (m := m) _ c hc hq.2
    rw [hE, eval_c, qb, qc]
    have hx : (cE x).value = x := rfl
    rw [hx]
    by_cases h0 : x ≠ 0
    · rw [if_pos h0, if_pos h0, evalE_up _ b hb]
      exact Prod.ext rfl (by rw [qb]; rfl)
    · rw [if_neg h0, if_neg h0, evalE_up _ c hc]
      exact Prod.ext rfl (by rw [qc]; rfl)
  · rfl
theorem selN_shape {p : Pg} {d : Nat} {v : Int} {a b c : Ex} (ha : CtR.shape p d a = true) (hb : CtR.shape p d b = true) (hc : CtR.shape p d c = true) (h : CtR.shape p (d + 1) (.mk 11 v [a, b, c]) = true) :
    CtR.shape p (d + 1) (selN d v a b c) = true ∧ cnt (d + 1) (selN d v a b c) ≤ 1 + cnt d a + cnt d b + cnt d c := by
  have ub := cnt_up d b hb
  have uc := cnt_up d c hc
  unfold selN
  split
  · split
    · exact ⟨shape_up d b hb, by omega⟩
    · exact ⟨shape_up d c hc, by omega⟩
  · exact ⟨h, by simp [cnt]; omega⟩
theorem fold_shape {p : Pg} : ∀ (d : Nat) (e : Ex), CtR.shape p d e = true → CtR.shape p d (foldE d e) = true ∧ cnt d (foldE d e) ≤ cnt d e
  | 0, _, h => by simp [CtR.shape] at h
  | d + 1, .mk k v ks, h => by
    obtain ⟨g1, g2, g3⟩ := shape_succ h
    rcases shape_form h with ⟨hk, rfl⟩ | ⟨a, rfl, rfl, ha, hat⟩ | ⟨a, b, h4, h10, rfl, ha, hb⟩ | ⟨a, b, c, rfl, rfl, ha, hb, hc⟩
    · exact ⟨h, Nat.le_refl _⟩
    · have : foldE (d + 1) (.mk 3 v [a]) = .mk 3 v [a] := by simp [foldE, foldN, fold_atom ha hat]
      rw [this]; exact ⟨h, Nat.le_refl _⟩
    · have ia := fold_shape d a ha
      have ib := fold_shape d b hb
      have := binN_shape (v := v) (k := k) ia.1 ib.1 (shape_of (by simpa using g1) (by simp [ia.1, ib.1]) (fun h => by omega))
      refine ⟨by simpa [foldE, foldN] using this.1, ?_⟩
      simp only [foldE, foldN, List.map_cons, List.map_nil]
      refine Nat.le_trans this.2 ?_
      simp [cnt]; omega
    · have ia := fold_shape d a ha
      have ib := fold_shape d b hb
      have ic := fold_shape d c hc
      have := selN_shape (v := v) ia.1 ib.1 ic.1 (shape_of (by simpa using g1) (by simp [ia.1, ib.1, ic.1]) (fun h => by omega))
      refine ⟨by simpa [foldE, foldN] using this.1, ?_⟩
      simp only [foldE, foldN, List.map_cons, List.map_nil]
      refine Nat.le_trans this.2 ?_
      simp [cnt]; omega
/-- Folding an expression keeps its value and its events. -/
theorem fold_eval {p : Pg} {m : Mm} (hm : MemFits p m) : ∀ (d : Nat) (e : Ex), CtR.shape p d e = true → evalE m d (foldE d e) = evalE m d e
  | 0, _, h => by simp [CtR.shape] at h
  | d + 1, .mk k v ks, h => by
    obtain ⟨g1, g2, g3⟩ := shape_succ h
    rcases shape_form h with ⟨hk, rfl⟩ | ⟨a, rfl, rfl, ha, hat⟩ | ⟨a, b, h4, h10, rfl, ha, hb⟩ | ⟨a, b, c, rfl, rfl, ha, hb, hc⟩
    · rfl
    · have : foldE (d + 1) (.mk 3 v [a]) = .mk 3 v [a] := by simp [foldE, foldN, fold_atom ha hat]
      rw [this]
    · have ia := fold_shape d a ha
      have ib := fold_shape d b hb
      have ea := fold_eval hm d a ha
      have eb := fold_eval hm d b hb
      have := binN_ok hm (v := v) (k := k) ⟨h4, h10⟩ ia.1 ib.1 (shape_of (by simpa using g1) (by simp [ia.1, ib.1]) (fun h => by omega))
      simp only [foldE, foldN, List.map_cons, List.map_nil]
      rw [this, evalE, evalE]
      simp only [List.map_cons, List.map_nil, ea, eb]
    · have ia := fold_shape d a ha
      have ib := fold_shape d b hb
      have ic := fold_shape d c hc
      have ea := fold_eval hm d a ha
      have eb := fold_eval hm d b hb
      have ec := fold_eval hm d c hc
      have := selN_ok (m := m) (v := v) ia.1 ib.1 ic.1
      simp only [foldE, foldN, List.map_cons, List.map_nil]
      rw [this, evalE, evalE]
      simp only [List.map_cons, List.map_nil, ea, eb, ec]
end Go.Proofs.YtjjjidcbokbhpaaGreat.CtL

namespace Go.Proofs.YtjjjidcbokbhpaaGreat.CtL
open Go Go.CT CtF CtR
open CtD (rel rel_app)

/-! Plain: folding of statements. -/
def foldL (f : St1 → List St1) (l : List St1) : List St1 := (l.map f).flatten
def foldC (k t : Int) (ix v : Ex) (c : Int) (b e : List St1) : List St1 :=
  if k == 3 && isC v then (if v.value ≠ 0 then b else e)
  else if k == 4 && c == 1 then b
  else if k == 4 && b.isEmpty then []
  else [.mk k t ix v c b e]
def foldV (k : Int) (v : Ex) : Ex := if k = 4 then v else foldE 5 v
def foldS : Nat → St1 → List St1
  | 0, _ => []
  | d + 1, .mk k t ix v c b e => foldC k t ix (foldV k v) c (foldL (foldS d) b) (foldL (foldS d) e)
def foldP (p : Pg) : Pg := ⟨p.vars, p.arrays, foldL (foldS 5) p.body⟩

theorem stmt_up {p : Pg} : ∀ (d : Nat) (s : St1), stmtOK p d s = true → stmtOK p (d + 1) s = true
  | 0, _, h => by simp [stmtOK] at h
  | d + 1, .mk k t ix v c b e, h => by
    obtain ⟨hh, hb, he⟩ := stmtOK_succ h
    rw [stmtOK]
    simp only [Bool.and_eq_true, List.all_eq_true]
    exact ⟨⟨hh, fun x hx => stmt_up d x (hb x hx)⟩, fun x hx => stmt_up d x (he x hx)⟩
theorem size_up {p : Pg} : ∀ (d : Nat) (s : St1), stmtOK p d s = true → tsize (d + 1) s = tsize d s
  | 0, _, h => by simp [stmtOK] at h
  | d + 1, .mk k t ix v c b e, h => by
    obtain ⟨hh, hb, he⟩ := stmtOK_succ h
    have e1 : b.map (tsize (d + 1)) = b.map (tsize d) := List.map_congr_left fun x hx => size_up d x (hb x hx)
    have e2 : e.map (tsize (d + 1)) = e.map (tsize d) := List.map_congr_left fun x hx => size_up d x (he x hx)
    rw [tsize, tsize, e1, e2]
theorem lsize_up {p : Pg} {d : Nat} {l : List St1} (h : ∀ s ∈ l, stmtOK p d s = true) : lsize (d + 1) l = lsize d l := by
  unfold lsize
  rw [List.map_congr_left fun x hx => size_up d x (h x hx)]
theorem right_fold {p : Pg} {v : Ex} (h : right p v = true) : right p (foldE 5 v) = true := by
  have hs := right_shape h
  have := fold_shape 5 v hs.1
  simp only [right, Bool.and_eq_true, decide_eq_true_eq]
  exact ⟨this.1, by omega⟩
theorem head_fold {p : Pg} {k t : Int} {ix v : Ex} {c : Int} {bn en bn' en' : Nat} (h : headOK p k t ix v c bn en = true) (hb : bn = 0 → bn' = 0) (he : en = 0 → en' = 0) : headOK p k t ix (foldV k v) c bn' en' = true := by
  have hr := right_fold (p := p) (v := v)
  unfold foldV
  simp only [headOK, Bool.and_eq_true] at h ⊢
  obtain ⟨h1, h2⟩ := h
  by_cases k4 : k = 4
  · subst k4
    simp only [parts, blk] at h1 ⊢
    simp at h1 ⊢
    exact ⟨h1.1, ⟨⟨⟨he h1.2.1.1.1.1, h1.2.1.1.1.2⟩, h1.2.1.1.2⟩, h1.2.1.2⟩, h1.2.2⟩
  · simp only [if_neg k4]
    refine ⟨?_, ?_⟩
    · unfold parts at h1 ⊢
      simp only [if_neg k4] at h1 ⊢
      simp only [Bool.and_eq_true] at h1 ⊢
      refine ⟨?_, h1.2⟩
      have := h1.1
      cases hk : blk k with
      | true => simpa [hk] using this
      | false =>
        simp [hk] at this ⊢
        exact ⟨hb this.1, he this.2⟩
    · by_cases k1 : k = 1 ∨ k = 5
      · rw [if_pos k1] at h2 ⊢
        simp only [Bool.and_eq_true] at h2 ⊢
        exact ⟨h2.1, hr h2.2⟩
      · rw [if_neg k1] at h2 ⊢
        by_cases k2 : k = 2
        · rw [if_pos k2] at h2 ⊢
          simp only [Bool.and_eq_true] at h2 ⊢
          exact ⟨h2.1, hr h2.2⟩
        · rw [if_neg k2] at h2 ⊢
          by_cases k3 : k = 3
          · rw [if_pos k3] at h2 ⊢; exact hr h2
          · rw [if_neg k3] at h2 ⊢; exact h2
theorem foldL_cons (f : St1 → List St1) (a : St1) (r : List St1) : foldL f (a :: r) = f a ++ foldL f r := by simp [foldL]
theorem foldL_ok {p : Pg} {d : Nat} : ∀ (l : List St1), (∀ s ∈ l, (∀ x ∈ foldS d s, stmtOK p d x = true) ∧ lsize d (foldS d s) ≤ tsize d s) → (∀ x ∈ foldL (foldS d) l, stmtOK p d x = true) ∧ lsize d (foldL (foldS d) l) ≤ lsize d l
  | [], _ => ⟨by simp [foldL], by simp [foldL, lsize]⟩
  | a :: r, h => by
    have h1 := h a (by simp)
    have h2 := foldL_ok r fun s hs => h s (by simp [hs])
    rw [foldL_cons]
    refine ⟨fun x hx => (List.mem_append.1 hx).elim (h1.1 x) (h2.1 x), ?_⟩
    rw [lsize_app]
    have : lsize d (a :: r) = tsize d a + lsize d r := by simp [lsize]
    omega
theorem fold_stmt {p : Pg} : ∀ (d : Nat) (s : St1), stmtOK p d s = true → (∀ x ∈ foldS d s, stmtOK p d x = true) ∧ lsize d (foldS d s) ≤ tsize d s
  | 0, _, h => by simp [stmtOK] at h
  | d + 1, .mk k t ix v c b e, h => by
    obtain ⟨hh, hb, he⟩ := stmtOK_succ h
    have gb := foldL_ok b fun s hs => fold_stmt d s (hb s hs)
    have ge := foldL_ok e fun s hs => fold_stmt d s (he s hs)
    have hd := head_fold (bn' := (foldL (foldS d) b).length) (en' := (foldL (foldS d) e).length) hh (fun h => by rw [List.length_eq_zero_iff.1 h]; rfl) (fun h => by rw [List.length_eq_zero_iff.1 h]; rfl)
    have hts : tsize (d + 1) (.mk k t ix v c b e) = 1 + lsize d b + lsize d e := rfl
    rw [foldS, hts]
    generalize foldL (foldS d) b = b' at *
    generalize foldL (foldS d) e = e' at *
    have ub := lsize_up gb.1
    have ue := lsize_up ge.1
    have sb : ∀ x ∈ b', stmtOK p (d + 1) x = true := fun x hx => stmt_up d x (gb.1 x hx)
    have se : ∀ x ∈ e', stmtOK p (d + 1) x = true := fun x hx => stmt_up d x (ge.1 x hx)
    unfold foldC
    split
    · split
      · exact ⟨sb, by omega⟩
      · exact ⟨se, by omega⟩
    split
    · exact ⟨sb, by omega⟩
    split
    · exact ⟨by simp, by simp [lsize]⟩
    · refine ⟨fun x hx => ?_, ?_⟩
      · rw [List.mem_singleton.1 hx, stmtOK]
        simp only [Bool.and_eq_true, List.all_eq_true]
        exact ⟨⟨hd, gb.1⟩, ge.1⟩
      · have : lsize (d + 1) [St1.mk k t ix (foldV k v) c b' e'] = 1 + lsize d b' + lsize d e' := by simp [lsize, tsize]
        omega
/-- A folded program is valid. -/
theorem fold_valid {p : Pg} (h : progOK p = true) : progOK (foldP p) = true := by
  obtain ⟨vs, ar, bd⟩ := p
  have hb := body_of h
  have := foldL_ok bd fun s hs => fold_stmt 5 s (hb.1 s hs)
  simp only [progOK, Bool.and_eq_true, decide_eq_true_eq, List.all_eq_true] at h ⊢
  refine ⟨⟨h.1.1, fun s hx => ?_⟩, ?_⟩
  · show stmtOK ⟨vs, ar, foldL (foldS 5) bd⟩ 5 s = true
    rw [stmtOK_bd vs ar _ bd]; exact this.1 s hx
  · have h2 : lsize 5 (foldP ⟨vs, ar, bd⟩).body ≤ lsize 5 bd := this.2
    omega

/-! Runs. -/
def prj (l : List Ev) : List Ev := l.filter fun e => decide (2 ≤ e.kind) && decide (e.kind ≤ 4)
theorem prj_app (a b : List Ev) : prj (a ++ b) = prj a ++ prj b := by simp [prj]
def Eqp (x y : Mm × List Ev) : Prop := x.1 = y.1 ∧ prj x.2 = prj y.2
theorem Eqp.rfl (x : Mm × List Ev) : Eqp x x := ⟨Eq.refl _, Eq.refl _⟩
theorem foldL_run {p : Pg} {f g : Mm → St1 → Mm × List Ev} {F : St1 → List St1} : ∀ (l : List St1) (m : Mm), MemFits p m → (∀ s ∈ l, ∀ m, MemFits p m → MemFits p (g m s).1) → (∀ s ∈ l, ∀ m, MemFits p m → Eqp (foldR f m (F s)) (g m s)) → Eqp (foldR f m (foldL F l)) (foldR g m l)
  | [], m, _, _, _ => Eqp.rfl _
  | a :: r, m, hm, hg, h => by
    have h1 := h a (by simp) m hm
    have h2 := foldL_run r (g m a).1 (hg a (by simp) m hm) (fun s hs => hg s (by simp [hs])) (fun s hs => h s (by simp [hs]))
    rw [foldL_cons, foldR_app]
    simp only [foldR]
    rw [h1.1]
    exact ⟨h2.1, by simp only [prj_app, h1.2, h2.2]⟩
theorem iter_run {p : Pg} {f g : Mm → Mm × List Ev} (hg : ∀ m, MemFits p m → MemFits p (g m).1) (h : ∀ m, MemFits p m → Eqp (f m) (g m)) : ∀ (n : Nat) (m : Mm), MemFits p m → Eqp (iterR f n m) (iterR g n m) ∧ MemFits p (iterR g n m).1
  | 0, m, hm => ⟨Eqp.rfl _, hm⟩
  | n + 1, m, hm => by
    obtain ⟨h1, h2⟩ := iter_run hg h n m hm
    have h3 := h _ h2
    simp only [iterR]
    rw [h1.1]
    exact ⟨⟨h3.1, by simp only [prj_app, h1.2, h3.2]⟩, hg _ h2⟩
theorem iter_nil' {f : Mm → St1 → Mm × List Ev} (n : Nat) (m : Mm) : iterR (fun m => foldR f m []) n m = (m, []) := by
  induction n with
  | zero => rfl
  | succ n ih => simp only [iterR, ih]; rfl
theorem foldV_eval {p : Pg} {m : Mm} (hm : MemFits p m) {k : Int} {v : Ex} (h : right p v = true) : evalE m 5 (foldV k v) = evalE m 5 v := by
  unfold foldV
  split
  · rfl
  · exact fold_eval hm 5 v (right_shape h).1
theorem foldR_one2 (f : Mm → St1 → Mm × List Ev) (m : Mm) (s : St1) : foldR f m [s] = ((f m s).1, (f m s).2 ++ []) := rfl
/-- Folding keeps what a program does, but for branches. -/
theorem fold_run {p : Pg} : ∀ (d : Nat) (s : St1) (m : Mm), MemFits p m → stmtOK p d s = true → Eqp (foldR (runS d) m (foldS d s)) (runS d m s)
  | 0, _, _, _, h => by simp [stmtOK] at h
  | d + 1, .mk k t ix v c b e, m, hm, h => by
    obtain ⟨hh, hb, he⟩ := stmtOK_succ h
    have gb := (foldL_ok b fun s hs => fold_stmt d s (hb s hs)).1
    have ge := (foldL_ok e fun s hs => fold_stmt d s (he s hs)).1
    have rb : ∀ m, MemFits p m → Eqp (foldR (runS d) m (foldL (foldS d) b)) (foldR (runS d) m b) := fun m hm => foldL_run b m hm (fun s hs m hm => (runS_ok d m s hm (hb s hs)).1) fun s hs m hm => fold_run d s m hm (hb s hs)
    have re : ∀ m, MemFits p m → Eqp (foldR (runS d) m (foldL (foldS d) e)) (foldR (runS d) m e) := fun m hm => foldL_run e m hm (fun s hs m hm => (runS_ok d m s hm (he s hs)).1) fun s hs m hm => fold_run d s m hm (he s hs)
    have kb : ∀ m, MemFits p m → MemFits p (foldR (runS d) m b).1 := fun m hm => (runL_ok hm hb).1
    have ub : ∀ m, foldR (runS (d + 1)) m (foldL (foldS d) b) = foldR (runS d) m (foldL (foldS d) b) := fun m => runL_more (m := m) gb
    have ue : ∀ m, foldR (runS (d + 1)) m (foldL (foldS d) e) = foldR (runS d) m (foldL (foldS d) e) := fun m => runL_more (m := m) ge
    rw [foldS]
    have hcases := head_kind hh
    generalize hB : foldL (foldS d) b = b' at *
    generalize hE : foldL (foldS d) e = e' at *
    rcases hcases with ⟨hk, ht0, ht1, hr⟩ | ⟨hk, ht0, ht1, hri, hai, hr⟩ | ⟨hk, hr⟩ | ⟨hk, hc1, hc3⟩
    · have hv := foldV_eval hm (k := k) hr
      have n3 : (k == 3) = false := by rcases hk with rfl | rfl <;> rfl
      have n4 : (k == 4) = false := by rcases hk with rfl | rfl <;> rfl
      simp only [foldC, n3, n4, Bool.false_and, Bool.false_eq_true, if_false, foldR_one2]
      rcases hk with rfl | rfl
      · simp only [runS, Int.reduceEq, if_false, if_true, hv, List.append_nil]; exact Eqp.rfl _
      · simp only [runS, Int.reduceEq, if_false, if_true, hv, List.append_nil]; exact Eqp.rfl _
    · have hv := foldV_eval hm (k := k) hr
      subst hk
      simp only [foldC, foldR_one2, show ((2 : Int) == 3) = false from rfl, show ((2 : Int) == 4) = false from rfl, Bool.false_and, Bool.false_eq_true, if_false]
      simp only [runS, Int.reduceEq, if_false, if_true, hv, List.append_nil]; exact Eqp.rfl _
    · have hv := foldV_eval hm (k := k) hr
      subst hk
      have hsh := (right_shape (right_fold hr)).1
      have hf : foldV 3 v = foldE 5 v := rfl
      simp only [foldC, show ((3 : Int) == 3) = true from rfl, show ((3 : Int) == 4) = false from rfl, Bool.true_and, Bool.false_and, Bool.false_eq_true, if_false]
      by_cases hc : isC (foldV 3 v) = true
      · obtain ⟨x, hx, _⟩ := isC_form (by rw [hf]; exact hsh) hc
        rw [if_pos hc]
        have hev : evalE m 5 v = (x, []) := by rw [← hv, hx, eval_c]
        have hval : (foldV 3 v).value = x := by rw [hx]; rfl
        rw [hval]
        simp only [runS, Int.reduceEq, if_false, hev, List.nil_append]
        by_cases h0 : x ≠ 0
        · rw [if_pos h0, if_pos h0, ub]
          have := rb m hm
          exact ⟨this.1, by rw [this.2, prj_app]; rfl⟩
        · rw [if_neg h0, if_neg h0, ue]
          have := re m hm
          exact ⟨this.1, by rw [this.2, prj_app]; rfl⟩
      · rw [if_neg hc]
        simp only [foldR_one2, runS, Int.reduceEq, if_false, hv, List.append_nil]
        have h1 := rb m hm
        have h2 := re m hm
        split
        · exact ⟨h1.1, by simp only [prj_app, h1.2]⟩
        · exact ⟨h2.1, by simp only [prj_app, h2.2]⟩
    · subst hk
      have hit := iter_run (f := fun m => foldR (runS d) m b') (g := fun m => foldR (runS d) m b) kb rb c.toNat m hm
      simp only [foldC, show ((4 : Int) == 3) = false from rfl, show ((4 : Int) == 4) = true from rfl, Bool.true_and, Bool.false_and, Bool.false_eq_true, if_false]
      have hrun : runS (d + 1) m (.mk 4 t ix v c b e) = iterR (fun m => foldR (runS d) m b) c.toNat m := by simp only [runS, if_true]
      rw [hrun]
      by_cases h1 : c = 1
      · subst h1
        simp only [beq_self_eq_true, if_true]
        rw [ub]
        have := hit.1
        simp only [show (1 : Int).toNat = 1 from rfl, iterR, List.nil_append] at this ⊢
        exact this
      · rw [if_neg (by simpa using h1)]
        by_cases h2 : b'.isEmpty = true
        · rw [if_pos h2]
          have hb0 : b' = [] := by simpa using h2
          rw [hb0, iter_nil'] at hit
          exact hit.1
        · rw [if_neg h2, foldR_one2]
          simp only [runS, if_true, List.append_nil]
          exact hit.1
/-- A folded program computes the same. -/
theorem fold_prog {p : Pg} {m : Mm} (h1 : progOK p = true) (h2 : memOK p.vars p.arrays m = true) : Eqp (runL 5 m (foldP p).body) (runL 5 m p.body) := by
  have hb := body_of h1
  exact foldL_run p.body m (memFits_of (by rw [h1, h2]; rfl)) (fun s hs m hm => (runS_ok 5 m s hm (hb.1 s hs)).1) fun s hs m hm => fold_run 5 s m hm (hb.1 s hs)
end Go.Proofs.YtjjjidcbokbhpaaGreat.CtL
