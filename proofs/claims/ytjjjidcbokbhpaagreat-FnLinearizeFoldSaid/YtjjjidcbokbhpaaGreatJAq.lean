/- Contracts of functions of the program, one behind the other, as plain data: what each call returns and which blocks it leaves. -/
import Derived.Test.YtjjjidcbokbhpaaGreatJFacts
import Derived.Test.YtjjjidcbokbhpaaGreatJAh
import Derived.Test.YtjjjidcbokbhpaaGreatJAj
import Derived.Test.YtjjjidcbokbhpaaGreatJAk
import Derived.Test.YtjjjidcbokbhpaaGreatJAl
import Derived.Test.YtjjjidcbokbhpaaGreatJAo
import Derived.Test.YtjjjidcbokbhpaaGreatJAp
import Derived.Test.YtjjjidcbokbhpaaGreatJAm
import Derived.Test.YtjjjidcbokbhpaaGreatJAi
set_option linter.unusedVariables false
set_option linter.unusedSimpArgs false
set_option maxHeartbeats 16000000
set_option maxRecDepth 100000
namespace Go.Proofs.YtjjjidcbokbhpaaGreat.CtR
open Go Go.CT CtF
def secL (l : Nat) : Bool := l.testBit 0
def trustL (l : Nat) : Bool := !l.testBit 1
def subL (a b : Nat) : Bool := a ||| b == b
def kid0 : List Ex → Ex
 | [] => .mk 0 0 []
 | e :: _ => e
def secE (vs ar : List Int) : Nat → Ex → Bool
 | 0, _ => false
 | d + 1, .mk k v ks => (k == 3 && secL (labN vs ar d (kid0 ks))) || ks.any (secE vs ar d)
def storedN (vs ar : List Int) (s : St1) (c : Nat) : Nat := if s.kind = 2 then labN vs ar 5 s.value ||| c ||| labN vs ar 5 s.index else labN vs ar 5 s.value ||| c
def flowR (vs ar : List Int) (s : St1) (c : Nat) : Int :=
 if s.kind = 1 then (if subL (storedN vs ar s c) (nth vs s.target).toNat then 0 else 1)
 else if s.kind = 2 then (if subL (storedN vs ar s c) (nth ar s.target).toNat then 0 else 1)
 else if s.kind = 5 then (if trustL (labN vs ar 5 s.value) && c == 0 then 0 else 2) else 0
def leakR (vs ar : List Int) (s : St1) (_ : Nat) : Int :=
 if s.kind = 3 ∧ secL (labN vs ar 5 s.value) = true then 3
 else if (s.kind = 2 ∧ secL (labN vs ar 5 s.index) = true) ∨ secE vs ar 5 s.value = true then 4 else 0
def ownR (strict : Bool) (vs ar : List Int) (s : St1) (c : Nat) : Int :=
 if flowR vs ar s c ≠ 0 then flowR vs ar s c else if strict then leakR vs ar s c else 0
def walkR (res : St1 → Nat → Int) (vs ar : List Int) : Nat → Nat → List St1 → Int → Int × Int
 | 0, _, _, n => (0, n)
 | d + 1, c, l, n => l.foldl (fun (x : Int × Int) s => if x.1 ≠ 0 then x else if res s c ≠ 0 then (res s c, x.2) else
  if (walkR res vs ar d (ctxI vs ar s c) s.body (x.2 + 1)).1 ≠ 0 then walkR res vs ar d (ctxI vs ar s c) s.body (x.2 + 1)
  else walkR res vs ar d (ctxI vs ar s c) s.els (walkR res vs ar d (ctxI vs ar s c) s.body (x.2 + 1)).2) (0, n)
def fineL (res : St1 → Nat → Int) (vs ar : List Int) : Nat → Nat → List St1 → Bool
 | 0, _, _ => true
 | d + 1, c, l => l.all fun s => res s c == 0 && fineL res vs ar d (ctxI vs ar s c) s.body && fineL res vs ar d (ctxI vs ar s c) s.els
theorem walk_fine (res : St1 → Nat → Int) (vs ar : List Int) : ∀ (d c : Nat) (l : List St1) (n : Int), (walkR res vs ar d c l n).1 = 0 ↔ fineL res vs ar d c l = true
 | 0, _, _, _ => by simp [walkR, fineL]
 | d + 1, c, l, n => by
  have key : ∀ (l : List St1) (x : Int × Int), (l.foldl (fun (x : Int × Int) s => if x.1 ≠ 0 then x else if res s c ≠ 0 then (res s c, x.2) else
   if (walkR res vs ar d (ctxI vs ar s c) s.body (x.2 + 1)).1 ≠ 0 then walkR res vs ar d (ctxI vs ar s c) s.body (x.2 + 1)
   else walkR res vs ar d (ctxI vs ar s c) s.els (walkR res vs ar d (ctxI vs ar s c) s.body (x.2 + 1)).2) x).1 = 0 ↔ x.1 = 0 ∧ fineL res vs ar (d + 1) c l = true := by
   intro l
   induction l with
   | nil => intro x; simp [fineL]
   | cons a r ih =>
    intro x
    rw [List.foldl_cons, ih]
    have h1 := walk_fine res vs ar d (ctxI vs ar a c) a.body (x.2 + 1)
    have h2 := walk_fine res vs ar d (ctxI vs ar a c) a.els (walkR res vs ar d (ctxI vs ar a c) a.body (x.2 + 1)).2
    simp only [fineL, List.all_cons, Bool.and_eq_true, beq_iff_eq] at h1 h2 ⊢
    by_cases hx : x.1 = 0
    ·by_cases hr : res a c = 0
     ·by_cases hb : (walkR res vs ar d (ctxI vs ar a c) a.body (x.2 + 1)).1 = 0
      ·have hb2 := h1.1 hb
       simp only [hx, hr, hb, hb2, ne_eq, not_true_eq_false, if_false, true_and]
       rw [h2]
      ·have hb2 : ¬ fineL res vs ar d (ctxI vs ar a c) a.body = true := fun h => hb (h1.2 h)
       simp only [hx, hr, ne_eq, not_true_eq_false, if_false, true_and]
       rw [if_pos hb]
       simp [hb, hb2]
     ·simp [hx, hr]
    ·simp [hx]
  have := key l (0, n)
  simpa [walkR] using this
structure Fst where
 code : Int
 at_ : Int
 n : Int
def fstStep (res : St1 → Nat → Int) (x : Fst) (s : St1) (c : Nat) : Fst :=
 if x.code = 0 then ⟨res s c, if res s c ≠ 0 then x.n else x.at_, x.n + 1⟩ else ⟨x.code, x.at_, x.n + 1⟩
theorem each_walk (res : St1 → Nat → Int) (vs ar : List Int) : ∀ (d c : Nat) (l : List St1) (x : Fst),
 (eachF vs ar (fstStep res) d c x l).n = x.n + lsize d l ∧
 (x.code ≠ 0 → (eachF vs ar (fstStep res) d c x l).code = x.code ∧ (eachF vs ar (fstStep res) d c x l).at_ = x.at_) ∧
 (x.code = 0 → (eachF vs ar (fstStep res) d c x l).code = (walkR res vs ar d c l x.n).1 ∧
  (eachF vs ar (fstStep res) d c x l).at_ = (if (walkR res vs ar d c l x.n).1 = 0 then x.at_ else (walkR res vs ar d c l x.n).2) ∧
  ((walkR res vs ar d c l x.n).1 = 0 → (walkR res vs ar d c l x.n).2 = x.n + lsize d l))
 | 0, c, l, x => by simp [eachF, walkR, lsize_zero]
 | d + 1, c, l, x => by
  let F := fun (x : Int × Int) s => if x.1 ≠ 0 then x else if res s c ≠ 0 then (res s c, x.2) else
   if (walkR res vs ar d (ctxI vs ar s c) s.body (x.2 + 1)).1 ≠ 0 then walkR res vs ar d (ctxI vs ar s c) s.body (x.2 + 1)
   else walkR res vs ar d (ctxI vs ar s c) s.els (walkR res vs ar d (ctxI vs ar s c) s.body (x.2 + 1)).2
  let G := fun x s => eachF vs ar (fstStep res) d (ctxI vs ar s c) (eachF vs ar (fstStep res) d (ctxI vs ar s c) (fstStep res x s c) s.body) s.els
  have hone : ∀ (s : St1) (x : Fst), (G x s).n = x.n + tsize (d + 1) s ∧ (x.code ≠ 0 → (G x s).code = x.code ∧ (G x s).at_ = x.at_) ∧
   (x.code = 0 → (G x s).code = (F (0, x.n) s).1 ∧ (G x s).at_ = (if (F (0, x.n) s).1 = 0 then x.at_ else (F (0, x.n) s).2) ∧ ((F (0, x.n) s).1 = 0 → (F (0, x.n) s).2 = x.n + tsize (d + 1) s)) := by
   intro s x
   have hs := tsize_subs d s
   simp only [subs] at hs
   obtain ⟨a1, a2, a3⟩ := each_walk res vs ar d (ctxI vs ar s c) s.body (fstStep res x s c)
   obtain ⟨b1, b2, b3⟩ := each_walk res vs ar d (ctxI vs ar s c) s.els (eachF vs ar (fstStep res) d (ctxI vs ar s c) (fstStep res x s c) s.body)
   have hn : (fstStep res x s c).n = x.n + 1 := by unfold fstStep; split <;> rfl
   refine ⟨by simp only [G]; rw [b1, a1, hn, hs]; push_cast; omega, fun hx => ?_, fun hx => ?_⟩
   ·have e1 : (fstStep res x s c).code = x.code := by unfold fstStep; rw [if_neg hx]
    have e2 : (fstStep res x s c).at_ = x.at_ := by unfold fstStep; rw [if_neg hx]
    obtain ⟨c1, c2⟩ := a2 (by rw [e1]; exact hx)
    obtain ⟨d1, d2⟩ := b2 (by rw [c1, e1]; exact hx)
    exact ⟨d1.trans (c1.trans e1), d2.trans (c2.trans e2)⟩
   ·have e1 : (fstStep res x s c).code = res s c := by unfold fstStep; rw [if_pos hx]
    have e2 : (fstStep res x s c).at_ = if res s c ≠ 0 then x.n else x.at_ := by unfold fstStep; rw [if_pos hx]
    by_cases hr : res s c = 0
    ·rw [e1, hn] at a3
     obtain ⟨c1, c2, c3⟩ := a3 hr
     by_cases hb : (walkR res vs ar d (ctxI vs ar s c) s.body (x.n + 1)).1 = 0
     ·have hm : (eachF vs ar (fstStep res) d (ctxI vs ar s c) (fstStep res x s c) s.body).n = (walkR res vs ar d (ctxI vs ar s c) s.body (x.n + 1)).2 := by rw [a1, hn, c3 hb]
      rw [hm] at b3
      obtain ⟨d1, d2, d3⟩ := b3 (by rw [c1]; exact hb)
      have hF : F (0, x.n) s = walkR res vs ar d (ctxI vs ar s c) s.els (walkR res vs ar d (ctxI vs ar s c) s.body (x.n + 1)).2 := by
       simp only [F, hr, hb, ne_eq, not_true_eq_false, if_false]
      rw [hF]
      refine ⟨d1, ?_, fun h => ?_⟩
      ·simp only [G]
       rw [d2, c2, e2, if_pos hb]
       simp [hr]
      ·rw [d3 h, c3 hb, hs]; push_cast; omega
     ·have hF : F (0, x.n) s = walkR res vs ar d (ctxI vs ar s c) s.body (x.n + 1) := by
       simp only [F, hr, ne_eq, not_true_eq_false, if_false]
       rw [if_pos hb]
      rw [hF]
      obtain ⟨d1, d2⟩ := b2 (by rw [c1]; exact hb)
      refine ⟨d1.trans c1, ?_, fun h => absurd h hb⟩
      simp only [G]
      rw [d2, c2, if_neg hb, if_neg hb]
    ·have hF : F (0, x.n) s = (res s c, x.n) := by simp only [F, ne_eq, not_true_eq_false, if_false]; rw [if_pos hr]
     rw [hF]
     obtain ⟨c1, c2⟩ := a2 (by rw [e1]; exact hr)
     obtain ⟨d1, d2⟩ := b2 (by rw [c1, e1]; exact hr)
     refine ⟨d1.trans (c1.trans e1), ?_, fun h => absurd h hr⟩
     simp only [G]
     rw [d2, c2, e2, if_neg hr, if_pos hr]
  have hF1 : ∀ (y : Int × Int) (s : St1), y.1 ≠ 0 → F y s = y := fun y s h => by simp only [F]; rw [if_pos h]
  have hFn : ∀ (l : List St1) (y : Int × Int), y.1 ≠ 0 → l.foldl F y = y := by
   intro l
   induction l with
   | nil => intro y _; rfl
   | cons a r ih => intro y h; rw [List.foldl_cons, hF1 y a h, ih y h]
  have eG : eachF vs ar (fstStep res) (d + 1) c x l = l.foldl G x := rfl
  have eF : walkR res vs ar (d + 1) c l x.n = l.foldl F (0, x.n) := rfl
  rw [eG, eF]
  clear_value F G
  clear eG eF
  have key : ∀ (l : List St1) (x : Fst), (l.foldl G x).n = x.n + lsize (d + 1) l ∧ (x.code ≠ 0 → (l.foldl G x).code = x.code ∧ (l.foldl G x).at_ = x.at_) ∧
   (x.code = 0 → (l.foldl G x).code = (l.foldl F (0, x.n)).1 ∧ (l.foldl G x).at_ = (if (l.foldl F (0, x.n)).1 = 0 then x.at_ else (l.foldl F (0, x.n)).2) ∧ ((l.foldl F (0, x.n)).1 = 0 → (l.foldl F (0, x.n)).2 = x.n + lsize (d + 1) l)) := by
   intro l
   induction l with
   | nil => intro x; simp [lsize]
   | cons a r ih =>
    intro x
    obtain ⟨h1, h2, h3⟩ := hone a x
    obtain ⟨g1, g2, g3⟩ := ih (G x a)
    have hsz : lsize (d + 1) (a :: r) = tsize (d + 1) a + lsize (d + 1) r := by simp [lsize]
    rw [show (a :: r).foldl G x = r.foldl G (G x a) from rfl, show (a :: r).foldl F (0, x.n) = r.foldl F (F (0, x.n) a) from rfl]
    refine ⟨by rw [g1, h1, hsz]; push_cast; omega, fun hx => ?_, fun hx => ?_⟩
    ·obtain ⟨c1, c2⟩ := h2 hx
     obtain ⟨d1, d2⟩ := g2 (by rw [c1]; exact hx)
     exact ⟨d1.trans c1, d2.trans c2⟩
    ·obtain ⟨c1, c2, c3⟩ := h3 hx
     by_cases hb : (F (0, x.n) a).1 = 0
     ·have e : F (0, x.n) a = (0, (G x a).n) := Prod.ext hb (by rw [c3 hb, h1])
      obtain ⟨d1, d2, d3⟩ := g3 (by rw [c1]; exact hb)
      rw [e]
      refine ⟨d1, by rw [d2, c2, if_pos hb], fun h => by rw [d3 h, h1, hsz]; push_cast; omega⟩
     ·rw [hFn r _ hb]
      obtain ⟨d1, d2⟩ := g2 (by rw [c1]; exact hb)
      refine ⟨d1.trans c1, by rw [d2, c2], fun h => absurd h hb⟩
  exact key l x
def chkR (res : List Int → List Int → St1 → Nat → Int) (p : Pg) : Int × Int :=
 if progOK p = true then ((walkR (res p.vars p.arrays) p.vars p.arrays 5 0 p.body 0).1, if (walkR (res p.vars p.arrays) p.vars p.arrays 5 0 p.body 0).1 = 0 then -1 else (walkR (res p.vars p.arrays) p.vars p.arrays 5 0 p.body 0).2) else (5, -1)
def fineP (res : List Int → List Int → St1 → Nat → Int) (p : Pg) : Bool := progOK p && fineL (res p.vars p.arrays) p.vars p.arrays 5 0 p.body
theorem chk_fine (res : List Int → List Int → St1 → Nat → Int) (p : Pg) : (chkR res p).1 = 0 ↔ fineP res p = true := by
 unfold chkR fineP
 cases h : progOK p with
 | false => simp
 | true => simp only [if_true, Bool.true_and]; exact walk_fine _ _ _ _ _ _ _
def strictR (p : Pg) : Int × Int := if (chkR flowR p).1 ≠ 0 then chkR flowR p else chkR leakR p
theorem own_flow (p : Pg) : chkR (ownR false) p = chkR flowR p := by
 have : (ownR false) = flowR := by
  funext vs ar s c
  simp only [ownR]
  split
  ·rfl
  ·rename_i h; simp only [ne_eq, Classical.not_not] at h; simp [h]
 rw [this]
theorem strict_fine (p : Pg) : (strictR p).1 = 0 ↔ fineP flowR p = true ∧ fineP leakR p = true := by
 unfold strictR
 by_cases h : (chkR flowR p).1 = 0
 ·rw [if_neg (by simpa using h)]
  rw [chk_fine] at h ⊢
  simp [h]
 ·rw [if_pos h]
  rw [chk_fine] at h ⊢
  simp [h]
structure LowM (β : Nat) (p : Pg) (m m' : Mm) : Prop where
 lv : m.vals.length = m'.vals.length
 la : m.arrays.length = m'.arrays.length
 val : ∀ (i : Nat) (x : Int), p.vars[i]? = some x → x.toNat.testBit β = false → m.vals[i]? = m'.vals[i]?
 arr : ∀ (i : Nat) (x : Int), p.arrays[i]? = some x → x.toNat.testBit β = false → m.arrays[i]? = m'.arrays[i]?
theorem LowM.refl (β : Nat) (p : Pg) (m : Mm) : LowM β p m m := ⟨rfl, rfl, fun _ _ _ _ => rfl, fun _ _ _ _ => rfl⟩
theorem LowM.symm {β : Nat} {p : Pg} {m m' : Mm} (h : LowM β p m m') : LowM β p m' m := ⟨h.lv.symm, h.la.symm, fun i x a b => (h.val i x a b).symm, fun i x a b => (h.arr i x a b).symm⟩
theorem LowM.trans {β : Nat} {p : Pg} {a b c : Mm} (h : LowM β p a b) (h' : LowM β p b c) : LowM β p a c :=
 ⟨h.lv.trans h'.lv, h.la.trans h'.la, fun i x u v => (h.val i x u v).trans (h'.val i x u v), fun i x u v => (h.arr i x u v).trans (h'.arr i x u v)⟩
theorem or_bit {β : Nat} : ∀ (l : List Nat) (a : Nat), (l.foldl (fun a b => a ||| b) a).testBit β = false ↔ a.testBit β = false ∧ ∀ x ∈ l, x.testBit β = false
 | [], a => by simp
 | b :: r, a => by rw [List.foldl_cons, or_bit r, Nat.testBit_or]; simp [and_assoc]
theorem arrAt_eq {m m' : Mm} {v : Int} (h : m.arrays[v.toNat]? = m'.arrays[v.toNat]?) : arrAt m v = arrAt m' v := by
 unfold arrAt; rw [List.getD_eq_getElem?_getD, List.getD_eq_getElem?_getD, h]
theorem LowM.setV {β : Nat} {p : Pg} {m m' : Mm} (h : LowM β p m m') {t x y : Int} (hx : x = y ∨ (nth p.vars t).toNat.testBit β = true) : LowM β p (setV m t x) (setV m' t y) where
 lv := by simp [CtR.setV, h.lv]
 la := h.la
 val := fun i z hz hb => by
  simp only [CtR.setV, List.getElem?_set, h.lv]
  by_cases e : t.toNat = i
  ·subst e
   rcases hx with rfl | hx
   ·simp [h.val _ z hz hb]
   ·have : nth p.vars t = z := by unfold nth; rw [List.getD_eq_getElem?_getD, hz]; rfl
    rw [this, hb] at hx
    cases hx
  ·simp only [e, if_false]; exact h.val i z hz hb
 arr := h.arr
theorem LowM.setV1 {β : Nat} {p : Pg} {m m' : Mm} (h : LowM β p m m') {t y : Int} (hx : (nth p.vars t).toNat.testBit β = true) : LowM β p m (CtR.setV m' t y) where
 lv := by simp [CtR.setV, h.lv]
 la := h.la
 val := fun i z hz hb => by
  simp only [CtR.setV, List.getElem?_set]
  by_cases e : t.toNat = i
  ·subst e
   have : nth p.vars t = z := by unfold nth; rw [List.getD_eq_getElem?_getD, hz]; rfl
   rw [this, hb] at hx
   cases hx
  ·simp only [e, if_false]; exact h.val i z hz hb
 arr := h.arr
theorem LowM.setA {β : Nat} {p : Pg} {m m' : Mm} (h : LowM β p m m') {t i j x y : Int} (hx : (i = j ∧ x = y) ∨ (nth p.arrays t).toNat.testBit β = true) : LowM β p (setA m t i x) (setA m' t j y) where
 lv := h.lv
 la := by simp [CtR.setA, h.la]
 val := h.val
 arr := fun k z hz hb => by
  simp only [CtR.setA, List.getElem?_set, h.la]
  by_cases e : t.toNat = k
  ·subst e
   rcases hx with ⟨rfl, rfl⟩ | hx
   ·rw [arrAt_eq (h.arr _ z hz hb), h.arr _ z hz hb]
   ·have : nth p.arrays t = z := by unfold nth; rw [List.getD_eq_getElem?_getD, hz]; rfl
    rw [this, hb] at hx
    cases hx
  ·simp only [e, if_false]; exact h.arr k z hz hb
theorem LowM.setA1 {β : Nat} {p : Pg} {m m' : Mm} (h : LowM β p m m') {t j y : Int} (hx : (nth p.arrays t).toNat.testBit β = true) : LowM β p m (CtR.setA m' t j y) where
 lv := h.lv
 la := by simp [CtR.setA, h.la]
 val := h.val
 arr := fun k z hz hb => by
  simp only [CtR.setA, List.getElem?_set]
  by_cases e : t.toNat = k
  ·subst e
   have : nth p.arrays t = z := by unfold nth; rw [List.getD_eq_getElem?_getD, hz]; rfl
   rw [this, hb] at hx
   cases hx
  ·simp only [e, if_false]; exact h.arr k z hz hb
theorem subL_bit {a b β : Nat} (h : subL a b = true) (ha : a.testBit β = true) : b.testBit β = true := by
 have h : a ||| b = b := by simpa [subL] using h
 rw [← h, Nat.testBit_or, ha]; rfl
theorem subL_low {a b β : Nat} (h : subL a b = true) (hb : b.testBit β = false) : a.testBit β = false := by
 cases ha : a.testBit β with
 | false => rfl
 | true => rw [subL_bit h ha] at hb; cases hb
theorem runS_4 (d : Nat) (m : Mm) (t : Int) (ix v : Ex) (c : Int) (b e : List St1) : runS (d + 1) m (.mk 4 t ix v c b e) = iterR (fun m => foldR (runS d) m b) c.toNat m := by simp [runS]
theorem runS_1 (d : Nat) (m : Mm) (t : Int) (ix v : Ex) (c : Int) (b e : List St1) : runS (d + 1) m (.mk 1 t ix v c b e) = (setV m t (evalE m 5 v).1, (evalE m 5 v).2) := by simp [runS]
theorem runS_5 (d : Nat) (m : Mm) (t : Int) (ix v : Ex) (c : Int) (b e : List St1) : runS (d + 1) m (.mk 5 t ix v c b e) = (setV m t (evalE m 5 v).1, (evalE m 5 v).2 ++ [⟨4, (evalE m 5 v).1⟩]) := by simp [runS]
theorem runS_2 (d : Nat) (m : Mm) (t : Int) (ix v : Ex) (c : Int) (b e : List St1) : runS (d + 1) m (.mk 2 t ix v c b e) = (setA m t ((evalE m 5 ix).1 % 4) (evalE m 5 v).1, (evalE m 5 v).2 ++ [⟨3, t * 4 + (evalE m 5 ix).1 % 4⟩]) := by simp [runS]
theorem runS_if {d : Nat} {m : Mm} {k t : Int} {ix v : Ex} {c : Int} {b e : List St1} (h4 : k ≠ 4) (h1 : k ≠ 1) (h5 : k ≠ 5) (h2 : k ≠ 2) :
 ((evalE m 5 v).1 ≠ 0 → runS (d + 1) m (.mk k t ix v c b e) = ((foldR (runS d) m b).1, (evalE m 5 v).2 ++ [⟨1, 1⟩] ++ (foldR (runS d) m b).2)) ∧
 ((evalE m 5 v).1 = 0 → runS (d + 1) m (.mk k t ix v c b e) = ((foldR (runS d) m e).1, (evalE m 5 v).2 ++ [⟨1, 0⟩] ++ (foldR (runS d) m e).2)) := by
 constructor <;> intro h <;> simp [runS, h4, h1, h5, h2, h]
theorem flow_assign {vs ar : List Int} {s : St1} {c : Nat} (h : flowR vs ar s c = 0) (hk : s.kind = 1) : subL (storedN vs ar s c) (nth vs s.target).toNat = true := by
 unfold flowR at h
 rw [if_pos hk] at h
 cases hs : subL (storedN vs ar s c) (nth vs s.target).toNat with
 | true => rfl
 | false => rw [hs] at h; simp at h
theorem flow_store {vs ar : List Int} {s : St1} {c : Nat} (h : flowR vs ar s c = 0) (hk : s.kind = 2) : subL (storedN vs ar s c) (nth ar s.target).toNat = true := by
 unfold flowR at h
 rw [if_neg (by omega), if_pos hk] at h
 cases hs : subL (storedN vs ar s c) (nth ar s.target).toNat with
 | true => rfl
 | false => rw [hs] at h; simp at h
theorem shapeV {p : Pg} {d : Nat} {k t : Int} {ix v : Ex} {c : Int} {b e : List St1} (h : stmtOK p (d + 1) (.mk k t ix v c b e) = true) : (k ≠ 4 → shape p 5 v = true) ∧ (k = 2 → shape p 5 ix = true) := by
 have hk := head_kind (stmtOK_succ h).1
 constructor
 ·intro h4
  rcases hk with h | h | h | h
  ·exact (right_shape h.2.2.2).1
  ·exact (right_shape h.2.2.2.2.2).1
  ·exact (right_shape h.2).1
  ·exact absurd h.1 h4
 ·intro h2
  rcases hk with h | h | h | h
  ·exact absurd h.1 (by omega)
  ·exact (right_shape h.2.2.2.1).1
  ·exact absurd h.1 (by omega)
  ·exact absurd h.1 (by omega)
theorem leak_spec {vs ar : List Int} {s : St1} {c : Nat} (h : leakR vs ar s c = 0) : (s.kind = 3 → secL (labN vs ar 5 s.value) = false) ∧ (s.kind = 2 → secL (labN vs ar 5 s.index) = false) ∧ secE vs ar 5 s.value = false := by
 unfold leakR at h
 by_cases h1 : s.kind = 3 ∧ secL (labN vs ar 5 s.value) = true
 ·rw [if_pos h1] at h; omega
 ·rw [if_neg h1] at h
  by_cases h2 : (s.kind = 2 ∧ secL (labN vs ar 5 s.index) = true) ∨ secE vs ar 5 s.value = true
  ·rw [if_pos h2] at h; omega
  ·simp only [not_or, not_and, Bool.not_eq_true] at h1 h2
   exact ⟨h1, h2.1, h2.2⟩
theorem le3 {a : Nat} (h : a ≤ 3) : a = 0 ∨ a = 1 ∨ a = 2 ∨ a = 3 := by omega
theorem subI (a b : Nat) (ha : a ≤ 3) (hb : b ≤ 3) : decide (((a ||| b : Nat) : Int) = (b : Int)) = subL a b := by
 rcases le3 ha with rfl | rfl | rfl | rfl <;> rcases le3 hb with rfl | rfl | rfl | rfl <;> decide
theorem subA (a b : Nat) (ha : a ≤ 3) (hb : b ≤ 3) : decide (((a ^^^ (a &&& b) : Nat) : Int) = 0) = subL a b := by
 rcases le3 ha with rfl | rfl | rfl | rfl <;> rcases le3 hb with rfl | rfl | rfl | rfl <;> decide
theorem secI (a : Nat) (ha : a ≤ 3) : decide (((a &&& 1 : Nat) : Int) = 1) = secL a := by
 rcases le3 ha with rfl | rfl | rfl | rfl <;> decide
theorem secI' (a : Nat) (ha : a ≤ 3) : decide (((a &&& 1 : Nat) : Int) ≠ 0) = secL a := by
 rcases le3 ha with rfl | rfl | rfl | rfl <;> decide
theorem truI (a : Nat) (ha : a ≤ 3) : decide (((a &&& 2 : Nat) : Int) = 0) = trustL a := by
 rcases le3 ha with rfl | rfl | rfl | rfl <;> decide
theorem labelFlowsS (a b : Nat) (ha : a ≤ 3) (hb : b ≤ 3) : DC Tryz.prog 248 [DI .i64 a, DI .i64 b] [] (fun r h => r = DB (subL a b) ∧ h = []) := by
 have h1 := labelValidS a
 have h2 := labelValidS b
 have ha' : (decide (0 ≤ (a : Int)) && decide ((a : Int) ≤ 3)) = true := by simp; omega
 have hb' : (decide (0 ≤ (b : Int)) && decide ((b : Int) ≤ 3)) = true := by simp; omega
 rw [ha'] at h1
 rw [hb'] at h2
 have hs := subI a b ha hb
 generalize hR : (fun (r : D) (h : List (Option (List C))) => r = DB (subL a b) ∧ h = []) = R
 refine dcZ Tryz.func248 ?_
 simp only [go_sem]
 iterate 6 ((try (refine drvZ Tryz.func248 ?_; simp only [go_sem])); ((with_reducible and_intros) <;> try exact sd); (try first | refine XK.p h1 ok180 ?_ | refine XK.gp h1 ok180 ?_ | refine XK.p h2 ok180 ?_ | refine XK.gp h2 ok180 ?_))
 refine RetOb.plain (d := DB _) ?_ rfl
 rw [← hR, ← hs]
 exact ⟨rfl, rfl⟩
theorem labelSecretS (a : Nat) (ha : a ≤ 3) : DC Tryz.prog 158 [DI .i64 a] [] (fun r h => r = DB (secL a) ∧ h = []) := by
 have h1 := labelValidS a
 have ha' : (decide (0 ≤ (a : Int)) && decide ((a : Int) ≤ 3)) = true := by simp; omega
 rw [ha'] at h1
 have hs := secI a ha
 generalize hR : (fun (r : D) (h : List (Option (List C))) => r = DB (secL a) ∧ h = []) = R
 refine dcZ Tryz.func158 ?_
 simp only [go_sem]
 iterate 4 ((try (refine drvZ Tryz.func158 ?_; simp only [go_sem])); ((with_reducible and_intros) <;> try exact sd); (try first | refine XK.p h1 ok180 ?_ | refine XK.gp h1 ok180 ?_))
 refine RetOb.plain (d := DB _) ?_ rfl
 rw [← hR, ← hs]
 exact ⟨rfl, rfl⟩
theorem labelTrustedS (a : Nat) (ha : a ≤ 3) : DC Tryz.prog 249 [DI .i64 a] [] (fun r h => r = DB (trustL a) ∧ h = []) := by
 have h1 := labelValidS a
 have ha' : (decide (0 ≤ (a : Int)) && decide ((a : Int) ≤ 3)) = true := by simp; omega
 rw [ha'] at h1
 have hs := truI a ha
 generalize hR : (fun (r : D) (h : List (Option (List C))) => r = DB (trustL a) ∧ h = []) = R
 refine dcZ Tryz.func249 ?_
 simp only [go_sem]
 iterate 4 ((try (refine drvZ Tryz.func249 ?_; simp only [go_sem])); ((with_reducible and_intros) <;> try exact sd); (try first | refine XK.p h1 ok180 ?_ | refine XK.gp h1 ok180 ?_))
 refine RetOb.plain (d := DB _) ?_ rfl
 rw [← hR, ← hs]
 exact ⟨rfl, rfl⟩
theorem flowsI (a b : Nat) (ha : a ≤ 3) (hb : b ≤ 3) : DC Tryz.prog 203 [DI .i64 a, DI .i64 b] [] (fun r h => r = DB (subL a b) ∧ h = []) := by
 have hs := subA a b ha hb
 generalize hR : (fun (r : D) (h : List (Option (List C))) => r = DB (subL a b) ∧ h = []) = R
 refine dcZ Tryz.func203 ?_
 simp only [go_sem]
 iterate 2 ((try (refine drvZ Tryz.func203 ?_; simp only [go_sem])); ((with_reducible and_intros) <;> try exact sd))
 refine RetOb.plain (d := DB _) ?_ rfl
 rw [← hR, ← hs]
 exact ⟨rfl, rfl⟩
theorem labelTrustedI (a : Nat) (ha : a ≤ 3) : DC Tryz.prog 205 [DI .i64 a] [] (fun r h => r = DB (trustL a) ∧ h = []) := by
 have h1 := labelValidI a
 have ha' : (decide (0 ≤ (a : Int)) && decide ((a : Int) ≤ 3)) = true := by simp; omega
 rw [ha'] at h1
 have hs := truI a ha
 generalize hR : (fun (r : D) (h : List (Option (List C))) => r = DB (trustL a) ∧ h = []) = R
 refine dcZ Tryz.func205 ?_
 simp only [go_sem]
 iterate 4 ((try (refine drvZ Tryz.func205 ?_; simp only [go_sem])); ((with_reducible and_intros) <;> try exact sd); (try first | refine XK.p h1 ok186 ?_ | refine XK.gp h1 ok186 ?_))
 refine RetOb.plain (d := DB _) ?_ rfl
 rw [← hR, ← hs]
 exact ⟨rfl, rfl⟩
theorem labelSecretI (a : Nat) (ha : a ≤ 3) : DC Tryz.prog 166 [DI .i64 a] [] (fun r h => r = DB (secL a) ∧ h = []) := by
 have h1 := labelValidI a
 have ha' : (decide (0 ≤ (a : Int)) && decide ((a : Int) ≤ 3)) = true := by simp; omega
 rw [ha'] at h1
 have hs := secI' a ha
 generalize hR : (fun (r : D) (h : List (Option (List C))) => r = DB (secL a) ∧ h = []) = R
 refine dcZ Tryz.func166 ?_
 simp only [go_sem]
 iterate 4 ((try (refine drvZ Tryz.func166 ?_; simp only [go_sem])); ((with_reducible and_intros) <;> try exact sd); (try first | refine XK.p h1 ok186 ?_ | refine XK.gp h1 ok186 ?_))
 refine RetOb.plain (d := DB _) ?_ rfl
 rw [← hR, ← hs]
 refine ⟨?_, rfl⟩
 rcases le3 ha with rfl | rfl | rfl | rfl <;> rfl
theorem labelS (p : Pg) (hl : p.vars.length ≤ mx) (hl2 : p.arrays.length ≤ mx) (h1 : lab3 p.vars) (h2 : lab3 p.arrays) : ∀ (d : Nat) (e : Ex), shape p d e = true → DC Tryz.prog 159 [.agg p.cells, .agg e.cells] [] (fun r h => r = DI .i64 (labN p.vars p.arrays d e) ∧ h = []) := by
 have hmx := mx_eq
 intro d
 induction d with
 | zero => intro e h; simp [shape] at h
 | succ d ih =>
  intro e hsh
  obtain ⟨k, v, ks⟩ := e
  obtain ⟨g1, g2, g3⟩ := shape_succ hsh
  obtain ⟨hl3, hla, hv0, hv1⟩ := fits_len g1
  obtain ⟨vs, ar, bd⟩ := p
  have h1 : lab3 vs := h1
  have h2 : lab3 ar := h2
  generalize hR : (fun (r : D) (h : List (Option (List C))) => r = DI .i64 (labN vs ar (d + 1) (.mk k v ks)) ∧ h = []) = R
  have hle := fun e => labN_le h1 h2 d e
  have hacc : ∀ i, ((ks.take i).map (labN vs ar d)).foldl (fun a b => a ||| b) (labB vs ar k v) ≤ 3 := fun i => by
   have := labN_le h1 h2 (d + 1) (.mk k v (ks.take i))
   exact this
  have hlb : labB vs ar k v ≤ 3 := hacc 0
  have key : k = 2 ∨ k = 3 ∨ (k ≠ 2 ∧ k ≠ 3) := by omega
  rcases key with hk | hk | hk
  case' inl =>
   have hv1' : v < vs.length := by subst hk; simpa [limit] using hv1
   have hx := (nth_mem (l := vs) hv0 hv1').1
   have hB : ((labB vs ar k v : Nat) : Int) = nth vs v := by have := nth_lab h1 v; simp [labB, hk]; omega
   have e2 : (k == 2) = true := by simp [hk]
   refine dcZ Tryz.func159 ?_
   simp only [go_sem]
   iterate 4 ((try (refine drvZ Tryz.func159 ?_; simp only [go_sem, hx, e2, eq_true hk])); ((with_reducible and_intros) <;> try exact sd))
  case' inr.inl =>
   have hv1' : v < ar.length := by subst hk; simpa [limit] using hv1
   have hx := (nth_mem (l := ar) hv0 hv1').1
   have hB : ((labB vs ar k v : Nat) : Int) = nth ar v := by have := nth_lab h2 v; simp [labB, hk]; omega
   have e2 : (k == 2) = false := by simp [hk]
   have e3 : (k == 3) = true := by simp [hk]
   have f2 : (k = 2) = False := by simp [hk]
   refine dcZ Tryz.func159 ?_
   simp only [go_sem]
   iterate 4 ((try (refine drvZ Tryz.func159 ?_; simp only [go_sem, hx, e2, e3, f2, eq_true hk])); ((with_reducible and_intros) <;> try exact sd))
  case' inr.inr =>
   have hB : ((labB vs ar k v : Nat) : Int) = 0 := by simp [labB, hk.1, hk.2]
   have e2 : (k == 2) = false := by simp [hk.1]
   have e3 : (k == 3) = false := by simp [hk.2]
   have hk2 := hk.1
   have hk3 := hk.2
   refine dcZ Tryz.func159 ?_
   simp only [go_sem]
   iterate 4 ((try (refine drvZ Tryz.func159 ?_; simp only [go_sem, e2, e3, hk2, hk3])); ((with_reducible and_intros) <;> try exact sd))
  all_goals
   clear hk
   refine Go.loopQ (fun i : Nat => [(2, .c (.ptr 0 0)), (3, .c (.ptr 64 0)), (5, DI .i64 (((ks.take i).map (labN vs ar d)).foldl (fun a b => a ||| b) (labB vs ar k v) : Nat)), (6, DI .i64 i)]) (fun i => [(0, some (Pg.cells ⟨vs, ar, bd⟩)), (64, some (Ex.cells (.mk k v ks)))])
    4096 (fun i => i ≤ ks.length) (fun i => ks.length - i) ?_ 0 some [] _ (Nat.zero_le _) ?_
   ·intro i hi again
    rcases Nat.lt_or_ge i ks.length with hlt | hge
    ·obtain ⟨⟨k', v', ks'⟩, hx⟩ : ∃ x, ks[i]? = some x := ⟨ks[i], by simp [hlt]⟩
     have hsc := lab_succ (labN vs ar d) (labB vs ar k v) ks i _ hx
     have ha := hacc i
     have hb := hle (.mk k' v' ks')
     have hc := hacc (i + 1)
     rw [hsc] at hc
     have hi := ih (.mk k' v' ks') (g2 _ (List.mem_of_getElem? hx))
     generalize ((ks.take i).map (labN vs ar d)).foldl (fun a b => a ||| b) (labB vs ar k v) = acc at *
     refine drvL Tryz.func159 ?_
     simp only [go_sem, hx, hlt]
     iterate 5 ((try (refine drvZ Tryz.func159 ?_; simp only [go_sem, hx, hlt])); ((with_reducible and_intros) <;> try exact sd); (try first | refine XK.p hi ok159 ?_ | refine XK.gp hi ok159 ?_))
     refine again (i + 1) some [] _ hlt (by omega) ?_
     simp only [go_sem, TmOK, DM, DMs, CM, CMs, forall_eq, exists_eq_left, Mq, HpOK, LowOK, hsc]
     simp
     rw [← List.map_take, hsc]
    ·have hn : ¬ i < ks.length := by omega
     obtain rfl : i = ks.length := by omega
     refine drvL Tryz.func159 ?_
     simp only [go_sem, hn, List.take_length]
     iterate 2 ((try (refine drvZ Tryz.func159 ?_; simp only [go_sem, hn, List.take_length])); ((with_reducible and_intros) <;> try exact sd))
     exact RetOb.plain (d := DI .i64 _) (by rw [← hR]; exact ⟨rfl, rfl⟩) rfl
   ·simp only [go_sem, TmOK, DM, DMs, CM, CMs, forall_eq, exists_eq_left, Mq, HpOK, LowOK, List.take_zero, List.map_nil, List.foldl_nil]
    simp [hB]
theorem any_succ (f : Ex → Bool) (ks : List Ex) (i : Nat) (x : Ex) (h : ks[i]? = some x) : (ks.take (i + 1)).any f = ((ks.take i).any f || f x) := by
 rw [List.take_add_one, h]; simp
theorem secretS (p : Pg) (hl : p.vars.length ≤ mx) (hl2 : p.arrays.length ≤ mx) (h1 : lab3 p.vars) (h2 : lab3 p.arrays) : ∀ (d : Nat) (e : Ex), shape p d e = true → DC Tryz.prog 250 [.agg p.cells, .agg e.cells] [] (fun r h => r = DB (secE p.vars p.arrays d e) ∧ h = []) := by
 have hmx := mx_eq
 intro d
 induction d with
 | zero => intro e h; simp [shape] at h
 | succ d ih =>
  intro e hsh
  have hlab := labelS p hl hl2 h1 h2 d
  obtain ⟨k, v, ks⟩ := e
  obtain ⟨g1, g2, g3⟩ := shape_succ hsh
  obtain ⟨hl3, hla, hv0, hv1⟩ := fits_len g1
  obtain ⟨vs, ar, bd⟩ := p
  have h1 : lab3 vs := h1
  have h2 : lab3 ar := h2
  have hE : secE vs ar (d + 1) (.mk k v ks) = ((k == 3 && secL (labN vs ar d (kid0 ks))) || ks.any (secE vs ar d)) := rfl
  have ret : ∀ (b : Bool) (hp : Hp), b = secE vs ar (d + 1) (.mk k v ks) → RetOb 0 (fun r h => r = DB (secE vs ar (d + 1) (.mk k v ks)) ∧ h = []) (DB b) hp := fun b hp h => RetOb.plain (d := DB _) ⟨by rw [h], rfl⟩ rfl
  simp only at ret ⊢
  generalize hR : (fun (r : D) (h : List (Option (List C))) => r = DB (secE vs ar (d + 1) (.mk k v ks)) ∧ h = []) = R at ret ⊢
  rw [hE] at ret
  clear hE hR
  have hany : ∀ i, i ≤ ks.length → (ks.take i).any (secE vs ar d) = true → ks.any (secE vs ar d) = true := fun i _ h => by
   obtain ⟨x, hx, hb⟩ := List.any_eq_true.1 h
   exact List.any_eq_true.2 ⟨x, List.mem_of_mem_take hx, hb⟩
  by_cases hk : k = 3
  case' pos =>
   have e3 : (k == 3) = true := by simp [hk]
   have hk := eq_true hk
   obtain ⟨⟨k0, v0, s0⟩, rfl⟩ : ∃ a, ks = [a] := by
    have : ks.length = 1 := by rw [of_eq_true hk] at hla; simp [arity] at hla; omega
    match ks, this with
    | [a], _ => exact ⟨a, rfl⟩
   have hla0 := hlab (.mk k0 v0 s0) (g2 _ (by simp))
   have hle := labN_le h1 h2 d (.mk k0 v0 s0)
   rw [e3] at ret
   simp only [Bool.true_and, kid0] at ret
   generalize hl0 : labN vs ar d (.mk k0 v0 s0) = l0 at *
   have hse := labelSecretS l0 hle
   generalize hb0 : secL l0 = b0 at *
   generalize hks : [Ex.mk k0 v0 s0] = ks at *
   have hx0 : ks[0]? = some (.mk k0 v0 s0) := by rw [← hks]; rfl
   refine dcZ Tryz.func250 ?_
   simp only [go_sem]
   iterate 5 ((try (refine drvZ Tryz.func250 ?_; simp only [go_sem, hx0, hk, e3])); ((with_reducible and_intros) <;> try exact sd); (try first | refine XK.p hla0 ok159 ?_ | refine XK.gp hla0 ok159 ?_ | refine XK.p hse ok158 ?_ | refine XK.gp hse ok158 ?_))
   ·intro hbt; exact ret true _ (by rw [hbt]; rfl)
   intro hbf
   rw [hbf]
  case' neg =>
   obtain ⟨b0, hb0⟩ : ∃ b : Bool, b = (k == 3 && secL (labN vs ar d (kid0 ks))) := ⟨_, rfl⟩
   rw [← hb0] at ret
   have hbf : b0 = false := by rw [hb0]; simp [hk]
   clear hb0
   have e3 : (k == 3) = false := by simp [hk]
   rcases hx0 : ks[0]? with _ | ⟨k0, v0, s0⟩
   all_goals
    refine dcZ Tryz.func250 ?_
    simp only [go_sem]
    iterate 5 ((try (refine drvZ Tryz.func250 ?_; simp only [go_sem, hx0, hk, e3])); ((with_reducible and_intros) <;> try exact sd); (try first | refine XK.gs (DB false) ?_ | refine XK.gs (DI .i64 0) ?_))
  all_goals
   rw [hbf] at ret
   simp only [Bool.false_or] at ret
   clear hk e3
   refine Go.loopQ (fun i : Nat => [(2, .c (.ptr 0 0)), (3, .c (.ptr 64 0)), (5, DI .i64 i)]) (fun i => [(0, some (Pg.cells ⟨vs, ar, bd⟩)), (64, some (Ex.cells (.mk k v ks)))])
    4096 (fun i => i ≤ ks.length ∧ (ks.take i).any (secE vs ar d) = false) (fun i => ks.length - i) ?_ 0 some [] _ ⟨Nat.zero_le _, rfl⟩ ?_
   ·rintro i ⟨hi, hai⟩ again
    rcases Nat.lt_or_ge i ks.length with hlt | hge
    ·obtain ⟨⟨k', v', ks'⟩, hx⟩ : ∃ x, ks[i]? = some x := ⟨ks[i], by simp [hlt]⟩
     have hsc := any_succ (secE vs ar d) ks i _ hx
     have hi2 := ih (.mk k' v' ks') (g2 _ (List.mem_of_getElem? hx))
     have hay := hany (i + 1) hlt
     rw [hsc, hai, Bool.false_or] at hay
     rw [hai, Bool.false_or] at hsc
     simp only at hi2
     generalize hbi : secE vs ar d (.mk k' v' ks') = bi at *
     refine drvL Tryz.func250 ?_
     simp only [go_sem, hx, hlt]
     iterate 5 ((try (refine drvZ Tryz.func250 ?_; simp only [go_sem, hx, hlt])); ((with_reducible and_intros) <;> try exact sd); (try first | refine XK.p hi2 ok250 ?_ | refine XK.gp hi2 ok250 ?_))
     ·intro hbt; exact ret true _ (hay hbt).symm
     ·intro hbt
      iterate 3 ((try (refine drvZ Tryz.func250 ?_; simp only [go_sem, hx, hlt])); ((with_reducible and_intros) <;> try exact sd))
      refine again (i + 1) some [] _ ⟨hlt, by rw [hsc, hbt]⟩ (by omega) ?_
      simp only [go_sem, TmOK, DM, DMs, CM, CMs, forall_eq, exists_eq_left, Mq, HpOK, LowOK]
      simp
    ·have hn : ¬ i < ks.length := by omega
     obtain rfl : i = ks.length := by omega
     rw [List.take_length] at hai
     refine drvL Tryz.func250 ?_
     simp only [go_sem, hn]
     iterate 3 ((try (refine drvZ Tryz.func250 ?_; simp only [go_sem, hn])); ((with_reducible and_intros) <;> try exact sd))
     exact ret false _ hai.symm
   ·simp only [go_sem, TmOK, DM, DMs, CM, CMs, forall_eq, exists_eq_left, Mq, HpOK, LowOK]
    simp
theorem lab_at {l : List Int} (h : lab3 l) {t : Int} (h0 : 0 ≤ t) (h1 : t < l.length) : ∃ T : Nat, T ≤ 3 ∧ (nth l t).toNat = T ∧ l[t.toNat]? = some (T : Int) := by
 have h2 := nth_lab h t
 have h3 := (nth_mem h0 h1).1
 exact ⟨(nth l t).toNat, by omega, rfl, by rw [h3]; congr 1; omega⟩
theorem own1 (vs ar : List Int) (strict : Bool) (t : Int) (ix v : Ex) (cc : Int) (b e : List St1) (c : Nat) :
 ownR strict vs ar (.mk 1 t ix v cc b e) c = if subL (labN vs ar 5 v ||| c) (nth vs t).toNat = true then (if strict = true then (if secE vs ar 5 v = true then 4 else 0) else 0) else 1 := by
 have hf : flowR vs ar (.mk 1 t ix v cc b e) c = if subL (labN vs ar 5 v ||| c) (nth vs t).toNat = true then 0 else 1 := rfl
 have hk : leakR vs ar (.mk 1 t ix v cc b e) c = if secE vs ar 5 v = true then 4 else 0 := by
  cases hse : secE vs ar 5 v <;> simp [leakR, St1.kind, St1.value, St1.index, hse]
 unfold ownR
 rw [hf, hk]
 cases subL (labN vs ar 5 v ||| c) (nth vs t).toNat <;> simp
theorem own2 (vs ar : List Int) (strict : Bool) (t : Int) (ix v : Ex) (cc : Int) (b e : List St1) (c : Nat) :
 ownR strict vs ar (.mk 2 t ix v cc b e) c = if subL (labN vs ar 5 v ||| labN vs ar 5 ix ||| c) (nth ar t).toNat = true then (if strict = true then (if secE vs ar 5 v || secL (labN vs ar 5 ix) then 4 else 0) else 0) else 1 := by
 have hst : storedN vs ar (.mk 2 t ix v cc b e) c = labN vs ar 5 v ||| labN vs ar 5 ix ||| c := by
  have : storedN vs ar (.mk 2 t ix v cc b e) c = labN vs ar 5 v ||| c ||| labN vs ar 5 ix := rfl
  rw [this, Nat.or_assoc, Nat.or_comm c, ← Nat.or_assoc]
 have hf : flowR vs ar (.mk 2 t ix v cc b e) c = if subL (labN vs ar 5 v ||| labN vs ar 5 ix ||| c) (nth ar t).toNat = true then 0 else 1 := by
  rw [← hst]; rfl
 unfold ownR
 rw [hf]
 have hk : leakR vs ar (.mk 2 t ix v cc b e) c = if secE vs ar 5 v || secL (labN vs ar 5 ix) then 4 else 0 := by
  cases hse : secE vs ar 5 v <;> cases hsl : secL (labN vs ar 5 ix) <;> simp [leakR, St1.kind, St1.value, St1.index, hse, hsl]
 rw [hk]
 cases subL (labN vs ar 5 v ||| labN vs ar 5 ix ||| c) (nth ar t).toNat <;> simp
theorem own3 (vs ar : List Int) (strict : Bool) (t : Int) (ix v : Ex) (cc : Int) (b e : List St1) (c : Nat) :
 ownR strict vs ar (.mk 3 t ix v cc b e) c = if strict = true then (if secL (labN vs ar 5 v) = true then 3 else if secE vs ar 5 v = true then 4 else 0) else 0 := by
 simp only [ownR, flowR, leakR, St1.kind, St1.value]
 cases strict <;> simp
theorem own4 (vs ar : List Int) (strict : Bool) (t : Int) (ix : Ex) (cc : Int) (b e : List St1) (c : Nat) :
 ownR strict vs ar (.mk 4 t ix (.mk 0 0 []) cc b e) c = 0 := by
 simp only [ownR, flowR, leakR, St1.kind, St1.value, secE]
 cases strict <;> simp
theorem own5 (vs ar : List Int) (strict : Bool) (t : Int) (ix v : Ex) (cc : Int) (b e : List St1) (c : Nat) :
 ownR strict vs ar (.mk 5 t ix v cc b e) c = if trustL (labN vs ar 5 v) && c == 0 then (if strict = true then (if secE vs ar 5 v = true then 4 else 0) else 0) else 2 := by
 have hf : flowR vs ar (.mk 5 t ix v cc b e) c = if trustL (labN vs ar 5 v) && c == 0 then 0 else 2 := rfl
 have hk : leakR vs ar (.mk 5 t ix v cc b e) c = if secE vs ar 5 v = true then 4 else 0 := by
  cases hse : secE vs ar 5 v <;> simp [leakR, St1.kind, St1.value, St1.index, hse]
 unfold ownR
 rw [hf, hk]
 cases (trustL (labN vs ar 5 v) && c == 0) <;> simp
theorem ownS (p : Pg) (hl : p.vars.length ≤ mx) (hl2 : p.arrays.length ≤ mx) (h1 : lab3 p.vars) (h2 : lab3 p.arrays) (d : Nat) (s : St1) (hs : stmtOK p (d + 1) s = true) (c : Nat) (hc : c ≤ 3) (strict : Bool) :
 DC Tryz.prog 238 [.agg p.cells, .agg s.cells, DI .i64 c, DB strict] [] (fun r h => r = DI .i64 (ownR strict p.vars p.arrays s c) ∧ h = []) := by
 have hmx := mx_eq
 have hlab := labelS p hl hl2 h1 h2 5
 have hsec := secretS p hl hl2 h1 h2 5
 have hle := labN_le h1 h2 5
 obtain ⟨vs, ar, bd⟩ := p
 have h1 : lab3 vs := h1
 have h2 : lab3 ar := h2
 have ret : ∀ (n : Int) (hp : Hp), n = ownR strict vs ar s c → RetOb 0 (fun r h => r = DI .i64 (ownR strict vs ar s c) ∧ h = []) (DI .i64 n) hp := fun n hp h => RetOb.plain (d := DI .i64 _) ⟨by rw [h], rfl⟩ rfl
 simp only at ret hle ⊢
 generalize hR : (fun (r : D) (h : List (Option (List C))) => r = DI .i64 (ownR strict vs ar s c) ∧ h = []) = R at ret ⊢
 clear hR
 obtain ⟨k, t, ⟨ik, iv, iks⟩, ⟨vk, vv, vks⟩, cc, b, e⟩ := s
 have hh := head_kind (stmtOK_succ hs).1
 rcases hh with ⟨hk, ht0, ht1, hr⟩ | ⟨rfl, ht0, ht1, hri, hat, hr⟩ | ⟨rfl, hr⟩ | ⟨rfl, _, _⟩
 ·have hlv := hlab _ (right_shape hr).1
  have hsv := hsec _ (right_shape hr).1
  have hlvl := hle (.mk vk vv vks)
  obtain ⟨T, hT, hTe, htt⟩ := lab_at h1 ht0 ht1
  rcases hk with rfl | rfl
  ·rw [own1, hTe] at ret
   generalize labN vs ar 5 (.mk vk vv vks) = lv at *
   have hor := or3 hlvl hc
   have hfl := labelFlowsS (lv ||| c) T hor hT
   generalize subL (lv ||| c) T = sub at *
   simp only at hsv
   generalize secE vs ar 5 (.mk vk vv vks) = sv at *
   cases sub <;> cases strict <;> cases sv
   all_goals
    refine dcZ Tryz.func238 ?_
    simp only [go_sem]
    iterate 9 ((try (refine drvZ Tryz.func238 ?_; simp only [go_sem, htt])); ((with_reducible and_intros) <;> try exact sd); (try first | refine XK.p hlv ok159 ?_ | refine XK.gp hlv ok159 ?_ | refine XK.p hfl ok248 ?_ | refine XK.gp hfl ok248 ?_ | refine XK.p hsv ok250 ?_ | refine XK.gp hsv ok250 ?_ | refine XK.gs (DB false) ?_ | refine XK.gs (DI .i64 0) ?_))
   all_goals exact ret _ _ (by rfl)
  ·rw [own5] at ret
   have hc0 : (c == 0) = decide (c = 0) := rfl
   generalize labN vs ar 5 (.mk vk vv vks) = lv at *
   have htr := labelTrustedS lv hlvl
   generalize trustL lv = tr at *
   simp only at hsv
   generalize secE vs ar 5 (.mk vk vv vks) = sv at *
   have hcz : c = 0 ∨ (c ≠ 0 ∧ ((c : Int) = 0) = False ∧ ((c : Int) != 0) = true) := by
    rcases Nat.eq_zero_or_pos c with h | h
    ·exact .inl h
    ·exact .inr ⟨by omega, eq_false (by omega), by simp; omega⟩
   rcases hcz with rfl | ⟨hc1, hc2, hc3⟩
   ·cases tr <;> cases strict <;> cases sv
    all_goals
     refine dcZ Tryz.func238 ?_
     simp only [go_sem]
     iterate 9 ((try (refine drvZ Tryz.func238 ?_; simp only [go_sem, Int.natCast_zero])); ((with_reducible and_intros) <;> try exact sd); (try first | refine XK.p hlv ok159 ?_ | refine XK.gp hlv ok159 ?_ | refine XK.p htr ok249 ?_ | refine XK.gp htr ok249 ?_ | refine XK.p hsv ok250 ?_ | refine XK.gp hsv ok250 ?_ | refine XK.gs (DB false) ?_ | refine XK.gs (DI .i64 0) ?_))
    all_goals exact ret _ _ (by rfl)
   ·have hce : (c == 0) = false := by simp [hc1]
    rw [hce] at ret
    cases tr <;> cases strict <;> cases sv
    all_goals
     refine dcZ Tryz.func238 ?_
     simp only [go_sem]
     iterate 9 ((try (refine drvZ Tryz.func238 ?_; simp only [go_sem, hc2, hc3])); ((with_reducible and_intros) <;> try exact sd); (try first | refine XK.p hlv ok159 ?_ | refine XK.gp hlv ok159 ?_ | refine XK.p htr ok249 ?_ | refine XK.gp htr ok249 ?_ | refine XK.p hsv ok250 ?_ | refine XK.gp hsv ok250 ?_ | refine XK.gs (DB false) ?_ | refine XK.gs (DI .i64 0) ?_))
    all_goals exact ret _ _ (by rfl)
 ·have hlv := hlab _ (right_shape hr).1
  have hli := hlab _ (right_shape hri).1
  have hsv := hsec _ (right_shape hr).1
  have hlvl := hle (.mk vk vv vks)
  have hlil := hle (.mk ik iv iks)
  obtain ⟨T, hT, hTe, htt⟩ := lab_at h2 ht0 ht1
  rw [own2, hTe] at ret
  generalize labN vs ar 5 (.mk vk vv vks) = lv at *
  generalize labN vs ar 5 (.mk ik iv iks) = li at *
  have hvi := or3 hlvl hlil
  have hor := or3 hvi hc
  have hfl := labelFlowsS (lv ||| li ||| c) T hor hT
  have hsl := labelSecretS li hlil
  generalize subL (lv ||| li ||| c) T = sub at *
  generalize secL li = sl at *
  simp only at hsv
  generalize secE vs ar 5 (.mk vk vv vks) = sv at *
  cases sub <;> cases strict <;> cases sv <;> cases sl
  all_goals
   refine dcZ Tryz.func238 ?_
   simp only [go_sem]
   iterate 9 ((try (refine drvZ Tryz.func238 ?_; simp only [go_sem, htt])); ((with_reducible and_intros) <;> try exact sd); (try first | refine XK.p hlv ok159 ?_ | refine XK.gp hlv ok159 ?_ | refine XK.p hli ok159 ?_ | refine XK.gp hli ok159 ?_ | refine XK.p hfl ok248 ?_ | refine XK.gp hfl ok248 ?_ | refine XK.p hsv ok250 ?_ | refine XK.gp hsv ok250 ?_ | refine XK.p hsl ok158 ?_ | refine XK.gp hsl ok158 ?_ | refine XK.gs (DB false) ?_ | refine XK.gs (DI .i64 0) ?_))
  all_goals exact ret _ _ (by rfl)
 ·have hlv := hlab _ (right_shape hr).1
  have hsv := hsec _ (right_shape hr).1
  have hlvl := hle (.mk vk vv vks)
  rw [own3] at ret
  generalize labN vs ar 5 (.mk vk vv vks) = lv at *
  have hsl := labelSecretS lv hlvl
  generalize secL lv = sl at *
  simp only at hsv
  generalize secE vs ar 5 (.mk vk vv vks) = sv at *
  cases strict <;> cases sv <;> cases sl
  all_goals
   refine dcZ Tryz.func238 ?_
   simp only [go_sem]
   iterate 9 ((try (refine drvZ Tryz.func238 ?_; simp only [go_sem])); ((with_reducible and_intros) <;> try exact sd); (try first | refine XK.p hlv ok159 ?_ | refine XK.gp hlv ok159 ?_ | refine XK.p hsv ok250 ?_ | refine XK.gp hsv ok250 ?_ | refine XK.p hsl ok158 ?_ | refine XK.gp hsl ok158 ?_ | refine XK.gs (DB false) ?_ | refine XK.gs (DI .i64 0) ?_))
  all_goals exact ret _ _ (by rfl)
 ·obtain ⟨hv1, hv2⟩ := CtD.val_none hs
  cases hv2
  rw [own4] at ret
  cases strict
  all_goals
   refine dcZ Tryz.func238 ?_
   simp only [go_sem]
   iterate 9 ((try (refine drvZ Tryz.func238 ?_; simp only [go_sem])); ((with_reducible and_intros) <;> try exact sd); (try first | refine XK.gs (DB false) ?_ | refine XK.gs (DI .i64 0) ?_))
  all_goals exact ret _ _ (by rfl)
end Go.Proofs.YtjjjidcbokbhpaaGreat.CtR
