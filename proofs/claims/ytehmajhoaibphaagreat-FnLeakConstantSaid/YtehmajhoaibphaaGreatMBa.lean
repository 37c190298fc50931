/- Contracts of functions of the program, one behind the other, as plain data: what each call returns and which blocks it leaves. -/
import Derived.Test.YtehmajhoaibphaaGreatMFacts
import Derived.Test.YtehmajhoaibphaaGreatMAj
import Derived.Test.YtehmajhoaibphaaGreatMAk
import Derived.Test.YtehmajhoaibphaaGreatMAv
import Derived.Test.YtehmajhoaibphaaGreatMAy
import Derived.Test.YtehmajhoaibphaaGreatMAz
import Derived.Test.YtehmajhoaibphaaGreatMAl
import Derived.Test.YtehmajhoaibphaaGreatMAn
import Derived.Test.YtehmajhoaibphaaGreatMAo
import Derived.Test.YtehmajhoaibphaaGreatMAu
set_option linter.unusedVariables false
set_option linter.unusedSimpArgs false
set_option maxHeartbeats 16000000
set_option maxRecDepth 100000
namespace Go.Proofs.YtehmajhoaibphaaGreat.CtR
open Go Go.CT CtF

/-- The sets of all cells, of the trace and of the releases, as bits. -/
structure Dp where
  sets : List Nat
  tr : Nat
  re : Nat
abbrev orL (l : List Nat) : Nat := l.foldl (fun a b => a ||| b) 0
def dat (s : List Nat) (i : Nat) : Nat := s.getD i 0
def setE (nv : Nat) (s : List Nat) : Nat → Ex → Nat × Nat
  | 0, _ => (0, 0)
  | d + 1, .mk k v ks =>
    let o := orL (ks.map fun e => (setE nv s d e).1)
    let a := orL (ks.map fun e => (setE nv s d e).2)
    if k = 2 then (o ||| dat s v.toNat, a) else if k = 3 then (o ||| dat s (nv + v.toNat), a ||| o) else (o, a)
def unite (a b : List Nat) : List Nat := List.zipWith (fun x y => x ||| y) a b
def fixD (f : Dp → Dp) : Nat → Dp → Dp
  | 0, s => s
  | n + 1, s => if unite s.sets (f s).sets = s.sets then ⟨s.sets, (f s).tr, (f s).re⟩ else fixD f n ⟨unite s.sets (f s).sets, (f s).tr, (f s).re⟩
/-- Rounds enough for every fixed point. -/
def FU : Nat := 2 ^ 20
def depS (nv : Nat) : Nat → Nat → Dp → St1 → Dp
  | 0, _, s, _ => s
  | d + 1, c, s, .mk k t ix v cc b e =>
    if k = 4 then fixD (fun s => b.foldl (depS nv d c) s) FU s
    else
      let V := setE nv s.sets 5 v
      if k = 2 then
        let I := setE nv s.sets 5 ix
        ⟨s.sets.set (nv + t.toNat) (dat s.sets (nv + t.toNat) ||| (V.1 ||| I.1 ||| c)), s.tr ||| V.2 ||| I.2 ||| I.1, s.re⟩
      else if k = 3 then
        let y := b.foldl (depS nv d (c ||| V.1)) ⟨s.sets, s.tr ||| V.2 ||| V.1, s.re⟩
        let n := e.foldl (depS nv d (c ||| V.1)) ⟨s.sets, y.tr, y.re⟩
        ⟨unite y.sets n.sets, n.tr, n.re⟩
      else if k = 5 then ⟨s.sets.set t.toNat (V.1 ||| c), s.tr ||| V.2 ||| (V.1 ||| c), s.re ||| (V.1 ||| c)⟩
      else ⟨s.sets.set t.toNat (V.1 ||| c), s.tr ||| V.2, s.re⟩
def startD (w : Nat) : Dp := ⟨(List.range w).map fun i => 2 ^ i, 0, 0⟩
def depP (p : Pg) : Dp := p.body.foldl (depS p.vars.length 5 0) (startD (p.vars.length + p.arrays.length))

theorem depS_4 (nv d c : Nat) (s : Dp) (t : Int) (ix v : Ex) (cc : Int) (b e : List St1) : depS nv (d + 1) c s (.mk 4 t ix v cc b e) = fixD (fun s => b.foldl (depS nv d c) s) FU s := by simp [depS]
theorem depS_1 (nv d c : Nat) (s : Dp) (t : Int) (ix v : Ex) (cc : Int) (b e : List St1) : depS nv (d + 1) c s (.mk 1 t ix v cc b e) = ⟨s.sets.set t.toNat ((setE nv s.sets 5 v).1 ||| c), s.tr ||| (setE nv s.sets 5 v).2, s.re⟩ := by simp [depS]
theorem depS_5 (nv d c : Nat) (s : Dp) (t : Int) (ix v : Ex) (cc : Int) (b e : List St1) : depS nv (d + 1) c s (.mk 5 t ix v cc b e) = ⟨s.sets.set t.toNat ((setE nv s.sets 5 v).1 ||| c), s.tr ||| (setE nv s.sets 5 v).2 ||| ((setE nv s.sets 5 v).1 ||| c), s.re ||| ((setE nv s.sets 5 v).1 ||| c)⟩ := by simp [depS]
theorem depS_2 (nv d c : Nat) (s : Dp) (t : Int) (ix v : Ex) (cc : Int) (b e : List St1) : depS nv (d + 1) c s (.mk 2 t ix v cc b e) =
    ⟨s.sets.set (nv + t.toNat) (dat s.sets (nv + t.toNat) ||| ((setE nv s.sets 5 v).1 ||| (setE nv s.sets 5 ix).1 ||| c)), s.tr ||| (setE nv s.sets 5 v).2 ||| (setE nv s.sets 5 ix).2 ||| (setE nv s.sets 5 ix).1, s.re⟩ := by simp [depS]
def ifY (nv d c : Nat) (s : Dp) (v : Ex) (b : List St1) : Dp := b.foldl (depS nv d (c ||| (setE nv s.sets 5 v).1)) ⟨s.sets, s.tr ||| (setE nv s.sets 5 v).2 ||| (setE nv s.sets 5 v).1, s.re⟩
def ifN (nv d c : Nat) (s : Dp) (v : Ex) (b e : List St1) : Dp := e.foldl (depS nv d (c ||| (setE nv s.sets 5 v).1)) ⟨s.sets, (ifY nv d c s v b).tr, (ifY nv d c s v b).re⟩
theorem depS_3 (nv d c : Nat) (s : Dp) (t : Int) (ix v : Ex) (cc : Int) (b e : List St1) : depS nv (d + 1) c s (.mk 3 t ix v cc b e) =
    ⟨unite (ifY nv d c s v b).sets (ifN nv d c s v b e).sets, (ifN nv d c s v b e).tr, (ifN nv d c s v b e).re⟩ := by simp [depS, ifY, ifN]

/-- A cell's set has a bit. -/
def bt (k : Nat) (s : List Nat) (i : Nat) : Bool := (dat s i).testBit k
theorem dat_set (s : List Nat) (i j x : Nat) : dat (s.set i x) j = if i = j ∧ i < s.length then x else dat s j := by
  unfold dat
  rw [List.getD_eq_getElem?_getD, List.getD_eq_getElem?_getD, List.getElem?_set]
  by_cases h : i = j
  · subst h
    by_cases h2 : i < s.length <;> simp [h2]
  · simp [h]
theorem bt_set (k : Nat) (s : List Nat) (i j x : Nat) : bt k (s.set i x) j = if i = j ∧ i < s.length then x.testBit k else bt k s j := by
  unfold bt; rw [dat_set]; split <;> rfl
theorem unite_len {a b : List Nat} (h : b.length = a.length) : (unite a b).length = a.length := by simp [unite, h]
theorem dat_unite {a b : List Nat} (h : b.length = a.length) (i : Nat) : dat (unite a b) i = dat a i ||| dat b i := by
  unfold dat unite
  simp only [List.getD_eq_getElem?_getD, List.getElem?_zipWith]
  by_cases hi : i < a.length
  · have hj : i < b.length := by omega
    simp [hi, hj]
  · have hj : ¬ i < b.length := by omega
    simp [List.getElem?_eq_none (Nat.not_lt.mp hi), List.getElem?_eq_none (Nat.not_lt.mp hj)]
theorem bt_unite {a b : List Nat} (h : b.length = a.length) (k i : Nat) : bt k (unite a b) i = (bt k a i || bt k b i) := by
  unfold bt; rw [dat_unite h, Nat.testBit_or]
theorem orL_bit {β : Nat} (l : List Nat) : (orL l).testBit β = false ↔ ∀ x ∈ l, x.testBit β = false := by
  rw [or_bit]; simp

theorem list_sum_lt {w : Nat} : ∀ {l : List Nat}, (∀ a ∈ l, a < 2 ^ w) → l.sum ≤ l.length * 2 ^ w
  | [], _ => by simp
  | a :: r, h => by
    have := list_sum_lt (l := r) fun b hb => h b (by simp [hb])
    have := h a (by simp)
    simp only [List.sum_cons, List.length_cons, Nat.succ_mul]; omega
theorem unite_sum : ∀ {a b : List Nat}, b.length = a.length → a.sum ≤ (unite a b).sum ∧ (unite a b ≠ a → a.sum < (unite a b).sum)
  | [], [], _ => by simp [unite]
  | a :: r, b :: q, h => by
    have ⟨h1, h2⟩ := unite_sum (a := r) (b := q) (by simpa using h)
    have e : unite (a :: r) (b :: q) = (a ||| b) :: unite r q := by simp [unite]
    have h3 : a ≤ a ||| b := Nat.left_le_or
    rw [e]
    simp only [List.sum_cons]
    refine ⟨by omega, fun hne => ?_⟩
    by_cases h4 : unite r q = r
    · have : a ||| b ≠ a := fun h5 => hne (by rw [h4, h5])
      omega
    · have := h2 h4
      omega
  | [], _ :: _, h => by simp at h
  | _ :: _, [], h => by simp at h

/-- Sets of w cells. -/
structure Okd (w : Nat) (s : Dp) : Prop where
  len : s.sets.length = w
  le : w ≤ 14
  row : ∀ a ∈ s.sets, a < 2 ^ w
  tr : s.tr < 2 ^ w
  re : s.re < 2 ^ w
theorem dat_lt {w : Nat} {s : List Nat} (h : ∀ a ∈ s, a < 2 ^ w) (i : Nat) : dat s i < 2 ^ w := by
  unfold dat
  rw [List.getD_eq_getElem?_getD]
  cases he : s[i]? with
  | none => simp; exact Nat.two_pow_pos w
  | some a => exact h a (List.mem_of_getElem? he)
theorem orL_lt {w : Nat} : ∀ {l : List Nat} {a : Nat}, a < 2 ^ w → (∀ x ∈ l, x < 2 ^ w) → l.foldl (fun a b => a ||| b) a < 2 ^ w
  | [], a, h, _ => h
  | b :: r, a, h, hl => by rw [List.foldl_cons]; exact orL_lt (Nat.or_lt_two_pow h (hl b (by simp))) fun x hx => hl x (by simp [hx])
theorem setE_lt {w nv : Nat} {s : List Nat} (h : ∀ a ∈ s, a < 2 ^ w) : ∀ (d : Nat) (e : Ex), (setE nv s d e).1 < 2 ^ w ∧ (setE nv s d e).2 < 2 ^ w
  | 0, _ => ⟨Nat.two_pow_pos w, Nat.two_pow_pos w⟩
  | d + 1, .mk k v ks => by
    have h1 : orL (ks.map fun e => (setE nv s d e).1) < 2 ^ w := orL_lt (Nat.two_pow_pos w) fun x hx => by
      obtain ⟨e, he, rfl⟩ := List.mem_map.1 hx; exact (setE_lt h d e).1
    have h2 : orL (ks.map fun e => (setE nv s d e).2) < 2 ^ w := orL_lt (Nat.two_pow_pos w) fun x hx => by
      obtain ⟨e, he, rfl⟩ := List.mem_map.1 hx; exact (setE_lt h d e).2
    simp only [setE]
    split
    · exact ⟨Nat.or_lt_two_pow h1 (dat_lt h _), h2⟩
    · split
      · exact ⟨Nat.or_lt_two_pow h1 (dat_lt h _), Nat.or_lt_two_pow h2 h1⟩
      · exact ⟨h1, h2⟩
theorem set_row {w : Nat} {s : List Nat} (h : ∀ a ∈ s, a < 2 ^ w) {i x : Nat} (hx : x < 2 ^ w) : ∀ a ∈ s.set i x, a < 2 ^ w := fun a ha => by
  rcases List.mem_or_eq_of_mem_set ha with h1 | h1
  · exact h a h1
  · rw [h1]; exact hx
theorem unite_row {w : Nat} : ∀ {a b : List Nat}, (∀ x ∈ a, x < 2 ^ w) → (∀ x ∈ b, x < 2 ^ w) → ∀ x ∈ unite a b, x < 2 ^ w
  | [], _, _, _, x, hx => by simp [unite] at hx
  | _ :: _, [], _, _, x, hx => by simp [unite] at hx
  | a :: r, b :: q, h1, h2, x, hx => by
    have e : unite (a :: r) (b :: q) = (a ||| b) :: unite r q := by simp [unite]
    rw [e] at hx
    rcases List.mem_cons.1 hx with h | h
    · rw [h]; exact Nat.or_lt_two_pow (h1 a (by simp)) (h2 b (by simp))
    · exact unite_row (fun y hy => h1 y (by simp [hy])) (fun y hy => h2 y (by simp [hy])) x h
theorem Okd.unite {w : Nat} {s t : Dp} (h : Okd w s) (h' : Okd w t) {a b : Nat} (ha : a < 2 ^ w) (hb : b < 2 ^ w) : Okd w ⟨CtR.unite s.sets t.sets, a, b⟩ :=
  ⟨by rw [unite_len (by rw [h'.len, h.len])]; exact h.len, h.le, unite_row h.row h'.row, ha, hb⟩

/-- What a fixed point is. -/
theorem fix_spec {w : Nat} {f : Dp → Dp} (hf : ∀ s, Okd w s → Okd w (f s)) (Q : Dp → Prop)
    (hQ : ∀ s, Okd w s → Q s → Q ⟨unite s.sets (f s).sets, (f s).tr, (f s).re⟩) : ∀ (n : Nat) (s : Dp), Okd w s → Q s → w * 2 ^ w < n + s.sets.sum →
    ∃ t, Okd w t ∧ Q t ∧ fixD f n s = ⟨t.sets, (f t).tr, (f t).re⟩ ∧ unite t.sets (f t).sets = t.sets
  | 0, s, h, _, hn => by
    have := list_sum_lt (w := w) h.row
    rw [h.len] at this
    omega
  | n + 1, s, h, hq, hn => by
    have hfs := hf s h
    unfold fixD
    by_cases he : unite s.sets (f s).sets = s.sets
    · rw [if_pos he]
      exact ⟨s, h, hq, rfl, he⟩
    · rw [if_neg he]
      have h2 := (unite_sum (a := s.sets) (b := (f s).sets) (by rw [hfs.len, h.len])).2 he
      exact fix_spec hf Q hQ n _ (h.unite hfs hfs.tr hfs.re) (hQ s h hq) (by show w * 2 ^ w < n + (unite s.sets (f s).sets).sum; omega)
theorem fu_big {w : Nat} (h : w ≤ 14) (x : Nat) : w * 2 ^ w < FU + x := by
  have h1 : 2 ^ w ≤ 2 ^ 14 := Nat.pow_le_pow_right (by omega) h
  have h2 : w * 2 ^ w ≤ 14 * 2 ^ 14 := Nat.mul_le_mul h h1
  unfold FU
  omega

theorem fold_inv {α β : Type} {Q : α → Prop} {f : α → β → α} : ∀ (l : List β) (s : α), Q s → (∀ x ∈ l, ∀ s, Q s → Q (f s x)) → Q (l.foldl f s)
  | [], _, h, _ => h
  | x :: r, s, h, hf => fold_inv r _ (hf x (by simp) s h) fun y hy => hf y (by simp [hy])

theorem dep_ok {w nv : Nat} : ∀ (d c : Nat) (s : Dp) (t : St1), c < 2 ^ w → Okd w s → Okd w (depS nv d c s t)
  | 0, _, _, _, _, h => h
  | d + 1, c, s, .mk k t ix v cc b e, hc, h => by
    have hV := setE_lt (nv := nv) h.row 5 v
    have hI := setE_lt (nv := nv) h.row 5 ix
    have hl : ∀ (c : Nat) (l : List St1) (s : Dp), c < 2 ^ w → Okd w s → Okd w (l.foldl (depS nv d c) s) := fun c l s hc h =>
      fold_inv (Q := Okd w) l s h fun x _ s hs => dep_ok d c s x hc hs
    have o := fun {a b : Nat} (h1 : a < 2 ^ w) (h2 : b < 2 ^ w) => Nat.or_lt_two_pow h1 h2
    by_cases k4 : k = 4
    · subst k4
      rw [depS_4]
      obtain ⟨t, ht, _, e1, _⟩ := fix_spec (f := fun s => b.foldl (depS nv d c) s) (fun s hs => hl c b s hc hs) (fun _ => True) (fun _ _ _ => trivial) FU s h trivial (fu_big h.le _)
      rw [e1]
      have := hl c b t hc ht
      exact ⟨ht.len, ht.le, ht.row, this.tr, this.re⟩
    by_cases k1 : k = 1
    · subst k1
      rw [depS_1]
      exact ⟨by simp [h.len], h.le, set_row h.row (o hV.1 hc), o h.tr hV.2, h.re⟩
    by_cases k5 : k = 5
    · subst k5
      rw [depS_5]
      exact ⟨by simp [h.len], h.le, set_row h.row (o hV.1 hc), o (o h.tr hV.2) (o hV.1 hc), o h.re (o hV.1 hc)⟩
    by_cases k2 : k = 2
    · subst k2
      rw [depS_2]
      exact ⟨by simp [h.len], h.le, set_row h.row (o (dat_lt h.row _) (o (o hV.1 hI.1) hc)), o (o (o h.tr hV.2) hI.2) hI.1, h.re⟩
    by_cases k3 : k = 3
    · subst k3
      rw [depS_3]
      have hy : Okd w (ifY nv d c s v b) := hl _ b _ (o hc hV.1) ⟨h.len, h.le, h.row, o (o h.tr hV.2) hV.1, h.re⟩
      have hn : Okd w (ifN nv d c s v b e) := hl _ e _ (o hc hV.1) ⟨h.len, h.le, h.row, hy.tr, hy.re⟩
      exact hy.unite hn hn.tr hn.re
    · have : depS nv (d + 1) c s (.mk k t ix v cc b e) = ⟨s.sets.set t.toNat ((setE nv s.sets 5 v).1 ||| c), s.tr ||| (setE nv s.sets 5 v).2, s.re⟩ := by simp [depS, k4, k2, k3, k5]
      rw [this]
      exact ⟨by simp [h.len], h.le, set_row h.row (o hV.1 hc), o h.tr hV.2, h.re⟩
end Go.Proofs.YtehmajhoaibphaaGreat.CtR

namespace Go.Proofs.YtehmajhoaibphaaGreat.CtR
open Go Go.CT CtF

theorem bit_or {k a b : Nat} : (a ||| b).testBit k = false ↔ a.testBit k = false ∧ b.testBit k = false := by rw [Nat.testBit_or]; simp
theorem foldl_ok {w nv d c : Nat} (hc : c < 2 ^ w) (l : List St1) {s : Dp} (h : Okd w s) : Okd w (l.foldl (depS nv d c) s) :=
  fold_inv (Q := Okd w) l s h fun x _ s hs => dep_ok d c s x hc hs
/-- Trace and releases only grow. -/
def Le0 (k : Nat) (s s' : Dp) : Prop := (s'.tr.testBit k = false → s.tr.testBit k = false) ∧ (s'.re.testBit k = false → s.re.testBit k = false)
theorem Le0.trans {k : Nat} {a b c : Dp} (h : Le0 k a b) (h' : Le0 k b c) : Le0 k a c := ⟨fun x => h.1 (h'.1 x), fun x => h.2 (h'.2 x)⟩
theorem fold_le {k w : Nat} {G : Dp → St1 → Dp} : ∀ (l : List St1) (s : Dp), Okd w s → (∀ x ∈ l, ∀ s, Okd w s → Okd w (G s x)) → (∀ x ∈ l, ∀ s, Okd w s → Le0 k s (G s x)) → Le0 k s (l.foldl G s)
  | [], s, _, _, _ => ⟨id, id⟩
  | x :: r, s, h, h1, h2 => (h2 x (by simp) s h).trans (fold_le r _ (h1 x (by simp) s h) (fun y hy => h1 y (by simp [hy])) fun y hy => h2 y (by simp [hy]))
theorem dep_le {k w nv : Nat} : ∀ (d c : Nat) (s : Dp) (t : St1), c < 2 ^ w → Okd w s → Le0 k s (depS nv d c s t)
  | 0, _, _, _, _, _ => ⟨id, id⟩
  | d + 1, c, s, .mk kd t ix v cc b e, hc, h => by
    have hV := setE_lt (nv := nv) h.row 5 v
    have hl : ∀ (c : Nat) (l : List St1) (s : Dp), c < 2 ^ w → Okd w s → Le0 k s (l.foldl (depS nv d c) s) := fun c l s hc h =>
      fold_le l s h (fun x _ s hs => dep_ok d c s x hc hs) fun x _ s hs => dep_le d c s x hc hs
    by_cases k4 : kd = 4
    · subst k4
      rw [depS_4]
      obtain ⟨t, ht, hq, e1, _⟩ := fix_spec (f := fun s => b.foldl (depS nv d c) s) (fun s hs => foldl_ok hc b hs) (fun t => Le0 k s t)
        (fun t ht hq => hq.trans ⟨fun h => (hl c b t hc ht).1 h, fun h => (hl c b t hc ht).2 h⟩) FU s h ⟨id, id⟩ (fu_big h.le _)
      rw [e1]
      exact hq.trans ⟨fun h => (hl c b t hc ht).1 h, fun h => (hl c b t hc ht).2 h⟩
    by_cases k2 : kd = 2
    · subst k2; rw [depS_2]
      exact ⟨fun h => by simp only [bit_or] at h; exact h.1.1.1, fun h => h⟩
    by_cases k5 : kd = 5
    · subst k5; rw [depS_5]
      exact ⟨fun h => by simp only [bit_or] at h; exact h.1.1, fun h => by simp only [bit_or] at h; exact h.1⟩
    by_cases k3 : kd = 3
    · subst k3; rw [depS_3]
      have ho := Nat.or_lt_two_pow hc hV.1
      have i1 : Okd w ⟨s.sets, s.tr ||| (setE nv s.sets 5 v).2 ||| (setE nv s.sets 5 v).1, s.re⟩ := ⟨h.len, h.le, h.row, Nat.or_lt_two_pow (Nat.or_lt_two_pow h.tr hV.2) hV.1, h.re⟩
      have hy : Le0 k _ (ifY nv d c s v b) := hl _ b _ ho i1
      have oy : Okd w (ifY nv d c s v b) := foldl_ok ho b i1
      have hn : Le0 k _ (ifN nv d c s v b e) := hl _ e _ ho ⟨h.len, h.le, h.row, oy.tr, oy.re⟩
      exact ⟨fun h => by have := hy.1 (hn.1 h); simp only [bit_or] at this; exact this.1.1, fun h => hy.2 (hn.2 h)⟩
    · have : depS nv (d + 1) c s (.mk kd t ix v cc b e) = ⟨s.sets.set t.toNat ((setE nv s.sets 5 v).1 ||| c), s.tr ||| (setE nv s.sets 5 v).2, s.re⟩ := by simp [depS, k4, k2, k3, k5]
      rw [this]
      exact ⟨fun h => by simp only [bit_or] at h; exact h.1, fun h => h⟩
theorem if_trace {k w nv d c : Nat} {s : Dp} {v : Ex} {b e : List St1} (hc : c < 2 ^ w) (h : Okd w s) (hb : (ifN nv d c s v b e).tr.testBit k = false) :
    (ifY nv d c s v b).tr.testBit k = false ∧ (setE nv s.sets 5 v).1.testBit k = false ∧ (setE nv s.sets 5 v).2.testBit k = false := by
  have hV := setE_lt (nv := nv) h.row 5 v
  have ho := Nat.or_lt_two_pow hc hV.1
  have hl : ∀ (c : Nat) (l : List St1) (s : Dp), c < 2 ^ w → Okd w s → Le0 k s (l.foldl (depS nv d c) s) := fun c l s hc h =>
    fold_le l s h (fun x _ s hs => dep_ok d c s x hc hs) fun x _ s hs => dep_le d c s x hc hs
  have i1 : Okd w ⟨s.sets, s.tr ||| (setE nv s.sets 5 v).2 ||| (setE nv s.sets 5 v).1, s.re⟩ := ⟨h.len, h.le, h.row, Nat.or_lt_two_pow (Nat.or_lt_two_pow h.tr hV.2) hV.1, h.re⟩
  have hy : Le0 k _ (ifY nv d c s v b) := hl _ b _ ho i1
  have oy : Okd w (ifY nv d c s v b) := foldl_ok ho b i1
  have hn : Le0 k _ (ifN nv d c s v b e) := hl _ e _ ho ⟨h.len, h.le, h.row, oy.tr, oy.re⟩
  have h1 := hn.1 hb
  have h2 := hy.1 h1
  simp only [bit_or] at h2
  exact ⟨h1, h2.2, h2.1.2⟩

/-- In a context that depends on an input, what does not depend on it afterwards is unchanged. -/
structure Conf (k nv : Nat) (s' s : List Nat) (m m' : Mm) : Prop where
  lv : m.vals.length = m'.vals.length
  la : m.arrays.length = m'.arrays.length
  low : ∀ i, bt k s' i = false → bt k s i = false
  val : ∀ i, i < nv → bt k s' i = false → m.vals[i]? = m'.vals[i]?
  arr : ∀ i, bt k s' (nv + i) = false → m.arrays[i]? = m'.arrays[i]?
theorem Conf.refl (k nv : Nat) (s : List Nat) (m : Mm) : Conf k nv s s m m := ⟨rfl, rfl, fun _ h => h, fun _ _ _ => rfl, fun _ _ => rfl⟩
theorem Conf.trans {k nv : Nat} {a b c : List Nat} {m m' m'' : Mm} (h : Conf k nv b a m m') (h' : Conf k nv c b m' m'') : Conf k nv c a m m'' :=
  ⟨h.lv.trans h'.lv, h.la.trans h'.la, fun i x => h.low i (h'.low i x), fun i hi x => (h.val i hi (h'.low i x)).trans (h'.val i hi x), fun i x => (h.arr i (h'.low _ x)).trans (h'.arr i x)⟩
theorem Conf.wide {k nv : Nat} {s' s r' r : List Nat} {m m' : Mm} (h : Conf k nv s' s m m') (h1 : ∀ i, bt k r' i = false → bt k s' i = false) (h2 : ∀ i, bt k s' i = false → bt k s i = false → bt k r i = false) : Conf k nv r' r m m' :=
  ⟨h.lv, h.la, fun i x => h2 i (h1 i x) (h.low i (h1 i x)), fun i hi x => h.val i hi (h1 i x), fun i x => h.arr i (h1 _ x)⟩
theorem conf_list {k nv w : Nat} {G : Dp → St1 → Dp} {F : Mm → St1 → Mm × List Ev} : ∀ (l : List St1) (s : Dp) (m : Mm), Okd w s → (∀ x ∈ l, ∀ s, Okd w s → Okd w (G s x)) →
    (∀ x ∈ l, ∀ s m, Okd w s → Conf k nv (G s x).sets s.sets m (F m x).1) → Conf k nv (l.foldl G s).sets s.sets m (foldR F m l).1
  | [], s, m, _, _, _ => .refl _ _ _ _
  | x :: r, s, m, h, h1, h2 => (h2 x (by simp) s m h).trans (conf_list r _ _ (h1 x (by simp) s h) (fun y hy => h1 y (by simp [hy])) fun y hy => h2 y (by simp [hy]))
theorem conf_iter {k nv : Nat} {s' s : List Nat} {f : Mm → Mm × List Ev} (hs : ∀ i, bt k s i = false → bt k s' i = false) (hf : ∀ m, Conf k nv s' s m (f m).1) : ∀ (n : Nat) (m : Mm), Conf k nv s s m (iterR f n m).1
  | 0, m => .refl _ _ _ _
  | n + 1, m => (conf_iter hs hf n m).trans ((hf _).wide hs fun i _ h => h)
theorem bt_fix {k w : Nat} {t t' : Dp} (h : Okd w t) (h' : Okd w t') (he : unite t.sets t'.sets = t.sets) (i : Nat) (hb : bt k t.sets i = false) : bt k t'.sets i = false := by
  rw [← he, bt_unite (by rw [h'.len, h.len])] at hb
  simpa using (Bool.or_eq_false_iff.1 hb).2

theorem dep_conf {k w : Nat} {p : Pg} (hw : p.vars.length + p.arrays.length = w) : ∀ (d c : Nat) (s : Dp) (t : St1) (m : Mm), c < 2 ^ w → c.testBit k = true → Okd w s → stmtOK p d t = true → Conf k p.vars.length (depS p.vars.length d c s t).sets s.sets m (runS d m t).1
  | 0, _, s, _, m, _, _, _, _ => .refl _ _ _ _
  | d + 1, c, s, .mk kd t ix v cc b e, m, hc, hk, h, hso => by
    have hV := setE_lt (nv := p.vars.length) h.row 5 v
    have hbo := stmtOK_succ hso
    have hh := head_kind hbo.1
    have hl : ∀ (c : Nat) (l : List St1) (s : Dp) (m : Mm), (∀ x ∈ l, stmtOK p d x = true) → c < 2 ^ w → c.testBit k = true → Okd w s → Conf k p.vars.length (l.foldl (depS p.vars.length d c) s).sets s.sets m (foldR (runS d) m l).1 := fun c l s m hlo hc hk h =>
      conf_list l s m h (fun x _ s hs => dep_ok d c s x hc hs) fun x hx s m hs => dep_conf hw d c s x m hc hk hs (hlo x hx)
    have hsv : ∀ (x : Nat) (y : Int), x.testBit k = true → 0 ≤ t → t < p.vars.length → Conf k p.vars.length (s.sets.set t.toNat x) s.sets m (setV m t y) := fun x y hx t0 t1 => by
      have e1 : ∀ i, bt k (s.sets.set t.toNat x) i = false → t.toNat ≠ i ∧ bt k s.sets i = false := fun i hi => by
        rw [bt_set] at hi
        by_cases ht : t.toNat = i ∧ t.toNat < s.sets.length
        · rw [if_pos ht, hx] at hi; cases hi
        · rw [if_neg ht] at hi
          exact ⟨fun e => ht ⟨e, by rw [h.len]; omega⟩, hi⟩
      exact ⟨by simp [setV], rfl, fun i hi => (e1 i hi).2, fun i _ hi => by simp [setV, List.getElem?_set, (e1 i hi).1], fun _ _ => rfl⟩
    by_cases k4 : kd = 4
    · subst k4
      rw [depS_4, runS_4]
      obtain ⟨t, ht, hq, e1, e2⟩ := fix_spec (f := fun s => b.foldl (depS p.vars.length d c) s) (fun s hs => foldl_ok hc b hs) (fun t => ∀ i, bt k t.sets i = false → bt k s.sets i = false)
        (fun t ht hq i hi => hq i (by rw [bt_unite (by rw [(foldl_ok hc b ht).len, ht.len])] at hi; exact (Bool.or_eq_false_iff.1 hi).1)) FU s h (fun _ h => h) (fu_big h.le _)
      rw [e1]
      exact (conf_iter (fun i hi => bt_fix ht (foldl_ok hc b ht) e2 i hi) (fun m => hl c b t m hbo.2.1 hc hk ht) _ m).wide (fun i h => h) fun i h1 h2 => hq i h2
    by_cases k1 : kd = 1
    · subst k1; rw [depS_1, runS_1]
      exact hsv _ _ (by simp [Nat.testBit_or, hk]) (by omega) (by omega)
    by_cases k5 : kd = 5
    · subst k5; rw [depS_5, runS_5]
      exact hsv _ _ (by simp [Nat.testBit_or, hk]) (by omega) (by omega)
    by_cases k2 : kd = 2
    · subst k2; rw [depS_2, runS_2]
      have t0 : 0 ≤ t ∧ t < p.arrays.length := by omega
      have e1 : ∀ i, bt k (s.sets.set (p.vars.length + t.toNat) (dat s.sets (p.vars.length + t.toNat) ||| ((setE p.vars.length s.sets 5 v).1 ||| (setE p.vars.length s.sets 5 ix).1 ||| c))) i = false → p.vars.length + t.toNat ≠ i ∧ bt k s.sets i = false := fun i hi => by
        rw [bt_set] at hi
        by_cases ht : p.vars.length + t.toNat = i ∧ p.vars.length + t.toNat < s.sets.length
        · rw [if_pos ht] at hi; simp [Nat.testBit_or, hk] at hi
        · rw [if_neg ht] at hi
          exact ⟨fun e => ht ⟨e, by rw [h.len]; omega⟩, hi⟩
      exact ⟨rfl, by simp [setA], fun i hi => (e1 i hi).2, fun i _ hi => rfl, fun i hi => by
        have : t.toNat ≠ i := fun e => (e1 _ hi).1 (by rw [e])
        simp [setA, List.getElem?_set, this]⟩
    have k3 : kd = 3 := by omega
    subst k3
    rw [depS_3]
    have ho := Nat.or_lt_two_pow hc hV.1
    have hk2 : (c ||| (setE p.vars.length s.sets 5 v).1).testBit k = true := by simp [Nat.testBit_or, hk]
    have i1 : Okd w ⟨s.sets, s.tr ||| (setE p.vars.length s.sets 5 v).2 ||| (setE p.vars.length s.sets 5 v).1, s.re⟩ := ⟨h.len, h.le, h.row, Nat.or_lt_two_pow (Nat.or_lt_two_pow h.tr hV.2) hV.1, h.re⟩
    have oy : Okd w (ifY p.vars.length d c s v b) := foldl_ok ho b i1
    have i2 : Okd w ⟨s.sets, (ifY p.vars.length d c s v b).tr, (ifY p.vars.length d c s v b).re⟩ := ⟨h.len, h.le, h.row, oy.tr, oy.re⟩
    have on : Okd w (ifN p.vars.length d c s v b e) := foldl_ok ho e i2
    have hy : Conf k p.vars.length (ifY p.vars.length d c s v b).sets s.sets m (foldR (runS d) m b).1 := hl _ b _ m hbo.2.1 ho hk2 i1
    have hn : Conf k p.vars.length (ifN p.vars.length d c s v b e).sets s.sets m (foldR (runS d) m e).1 := hl _ e _ m hbo.2.2 ho hk2 i2
    have hu : ∀ i, bt k (unite (ifY p.vars.length d c s v b).sets (ifN p.vars.length d c s v b e).sets) i = false → bt k (ifY p.vars.length d c s v b).sets i = false ∧ bt k (ifN p.vars.length d c s v b e).sets i = false := fun i hi => by
      rw [bt_unite (by rw [on.len, oy.len])] at hi; exact Bool.or_eq_false_iff.1 hi
    have hi := runS_if (d := d) (m := m) (t := t) (ix := ix) (v := v) (c := cc) (b := b) (e := e) k4 k1 k5 k2
    by_cases hv : (evalE m 5 v).1 = 0
    · rw [hi.2 hv]; exact hn.wide (fun i h => (hu i h).2) fun i _ h => h
    · rw [hi.1 hv]; exact hy.wide (fun i h => (hu i h).1) fun i _ h => h
end Go.Proofs.YtehmajhoaibphaaGreat.CtR

namespace Go.Proofs.YtehmajhoaibphaaGreat.CtR
open Go Go.CT CtF

/-- Two memories agree on cells that do not depend on an input. -/
structure AgD (k nv : Nat) (s : List Nat) (m m' : Mm) : Prop where
  lv : m.vals.length = m'.vals.length
  la : m.arrays.length = m'.arrays.length
  val : ∀ i, i < nv → bt k s i = false → m.vals[i]? = m'.vals[i]?
  arr : ∀ i, bt k s (nv + i) = false → m.arrays[i]? = m'.arrays[i]?
theorem AgD.wide {k nv : Nat} {s s' : List Nat} {m m' : Mm} (h : AgD k nv s m m') (hs : ∀ i, bt k s' i = false → bt k s i = false) : AgD k nv s' m m' :=
  ⟨h.lv, h.la, fun i hi x => h.val i hi (hs i x), fun i x => h.arr i (hs _ x)⟩
theorem AgD.conf {k nv : Nat} {s r r' : List Nat} {m m' x x' : Mm} (h : AgD k nv s m m') (h1 : Conf k nv r s m x) (h2 : Conf k nv r' s m' x') {u : List Nat}
    (hu : ∀ i, bt k u i = false → bt k r i = false ∧ bt k r' i = false) : AgD k nv u x x' :=
  ⟨h1.lv.symm.trans (h.lv.trans h2.lv), h1.la.symm.trans (h.la.trans h2.la),
    fun i hi hb => (h1.val i hi (hu i hb).1).symm.trans ((h.val i hi (h1.low i (hu i hb).1)).trans (h2.val i hi (hu i hb).2)),
    fun i hb => (h1.arr i (hu _ hb).1).symm.trans ((h.arr i (h1.low _ (hu _ hb).1)).trans (h2.arr i (hu _ hb).2))⟩

theorem eval_val {k : Nat} {p : Pg} {s : List Nat} {m m' : Mm} (h : AgD k p.vars.length s m m') : ∀ (d : Nat) (e : Ex), shape p d e = true → (setE p.vars.length s d e).1.testBit k = false → (evalE m d e).1 = (evalE m' d e).1
  | 0, _, _, _ => rfl
  | d + 1, .mk kd v ks, hs, hb => by
    obtain ⟨g1, g2, g3⟩ := shape_succ hs
    obtain ⟨_, _, hv0, hv1⟩ := fits_len g1
    have hkids : (∀ x ∈ ks.map (fun e => (setE p.vars.length s d e).1), x.testBit k = false) → (ks.map fun e => (evalE m d e).1) = ks.map fun e => (evalE m' d e).1 := fun hx =>
      List.map_congr_left fun e he => eval_val h d e (g2 e he) (hx _ (List.mem_map.2 ⟨e, he, rfl⟩))
    by_cases k2 : kd = 2
    · subst k2
      simp only [setE, if_true, bit_or] at hb
      have hvn : v.toNat < p.vars.length := by simp [limit] at hv1; omega
      have := nth_eq (h.val _ hvn hb.2)
      simp [evalE, this]
    · by_cases k3 : kd = 3
      · subst k3
        simp [setE, bit_or] at hb
        have hx := hkids ((orL_bit _).1 hb.1)
        have := arrAt_eq (h.arr _ hb.2)
        simp only [evalE, hx, this]
        simp
      · simp only [setE, k2, k3, if_false] at hb
        have hx := hkids ((orL_bit _).1 hb)
        simp only [evalE, hx, k2, k3, if_false]
        repeat' split
        all_goals simp
theorem eval_ev {k : Nat} {p : Pg} {s : List Nat} {m m' : Mm} (h : AgD k p.vars.length s m m') : ∀ (d : Nat) (e : Ex), shape p d e = true → (setE p.vars.length s d e).2.testBit k = false → (evalE m d e).2 = (evalE m' d e).2
  | 0, _, _, _ => rfl
  | d + 1, .mk kd v ks, hs, hb => by
    obtain ⟨g1, g2, g3⟩ := shape_succ hs
    have hkids : (∀ x ∈ ks.map (fun e => (setE p.vars.length s d e).2), x.testBit k = false) → (ks.map fun e => (evalE m d e).2) = ks.map fun e => (evalE m' d e).2 := fun hx =>
      List.map_congr_left fun e he => eval_ev h d e (g2 e he) (hx _ (List.mem_map.2 ⟨e, he, rfl⟩))
    by_cases k2 : kd = 2
    · subst k2
      simp [evalE]
    · by_cases k3 : kd = 3
      · subst k3
        simp [setE, bit_or] at hb
        have hx := hkids ((orL_bit _).1 hb.1)
        have hy : (ks.map fun e => (evalE m d e).1) = ks.map fun e => (evalE m' d e).1 := List.map_congr_left fun e he => eval_val h d e (g2 e he) ((orL_bit _).1 hb.2 _ (List.mem_map.2 ⟨e, he, rfl⟩))
        simp only [evalE, hx, hy]
        simp
      · simp only [setE, k2, k3, if_false] at hb
        have hx := hkids ((orL_bit _).1 hb)
        simp only [evalE, hx, k2, k3, if_false]
        repeat' split
        all_goals simp

theorem AgD.set1 {k w : Nat} {p : Pg} {s : List Nat} {m m' : Mm} (h : AgD k p.vars.length s m m') (hw : p.vars.length + p.arrays.length = w) (hl : s.length = w) {t x y : Int} {z : Nat} (t0 : 0 ≤ t) (t1 : t < p.vars.length)
    (hx : z.testBit k = false → x = y) : AgD k p.vars.length (s.set t.toNat z) (setV m t x) (setV m' t y) := by
  refine ⟨by simp [setV, h.lv], h.la, fun i hi hb => ?_, fun i hb => ?_⟩
  · rw [bt_set] at hb
    simp only [setV, List.getElem?_set, h.lv]
    by_cases ht : t.toNat = i
    · rw [if_pos ⟨ht, by omega⟩] at hb
      simp [ht, hx hb]
    · rw [if_neg (fun e => ht e.1)] at hb
      simp [ht, h.val i hi hb]
  · rw [bt_set, if_neg (fun e => by omega)] at hb
    exact h.arr i hb
theorem AgD.set2 {k w : Nat} {p : Pg} {s : List Nat} {m m' : Mm} (h : AgD k p.vars.length s m m') (hw : p.vars.length + p.arrays.length = w) (hl : s.length = w) {t i j x y : Int} {z : Nat} (t0 : 0 ≤ t) (t1 : t < p.arrays.length)
    (hx : z.testBit k = false → i = j ∧ x = y ∧ bt k s (p.vars.length + t.toNat) = false) : AgD k p.vars.length (s.set (p.vars.length + t.toNat) z) (setA m t i x) (setA m' t j y) := by
  refine ⟨h.lv, by simp [setA, h.la], fun n hn hb => ?_, fun n hb => ?_⟩
  · rw [bt_set, if_neg (fun e => by omega)] at hb
    exact h.val n hn hb
  · rw [bt_set] at hb
    simp only [setA, List.getElem?_set, h.la]
    by_cases ht : t.toNat = n
    · subst ht
      rw [if_pos ⟨rfl, by omega⟩] at hb
      obtain ⟨rfl, rfl, hb2⟩ := hx hb
      rw [arrAt_eq (h.arr _ hb2)]; simp
    · rw [if_neg (fun e => ht (by omega))] at hb
      simp [ht, h.arr n hb]

theorem agree_list {k nv w : Nat} {G : Dp → St1 → Dp} {F : Mm → St1 → Mm × List Ev} : ∀ (l : List St1) (s : Dp) (m m' : Mm), Okd w s → (∀ x ∈ l, ∀ s, Okd w s → Okd w (G s x)) → (∀ x ∈ l, ∀ s, Okd w s → Le0 k s (G s x)) →
    (∀ x ∈ l, ∀ s m m', Okd w s → AgD k nv s.sets m m' → AgD k nv (G s x).sets (F m x).1 (F m' x).1 ∧ ((G s x).tr.testBit k = false → (F m x).2 = (F m' x).2)) →
    AgD k nv s.sets m m' → AgD k nv (l.foldl G s).sets (foldR F m l).1 (foldR F m' l).1 ∧ ((l.foldl G s).tr.testBit k = false → (foldR F m l).2 = (foldR F m' l).2)
  | [], s, m, m', _, _, _, _, ha => ⟨ha, fun _ => rfl⟩
  | x :: r, s, m, m', h, h1, h2, h3, ha => by
    obtain ⟨a1, a2⟩ := h3 x (by simp) s m m' h ha
    have ho := h1 x (by simp) s h
    have hle := fold_le (k := k) (G := G) r _ ho (fun y hy => h1 y (by simp [hy])) fun y hy => h2 y (by simp [hy])
    obtain ⟨b1, b2⟩ := agree_list r (G s x) _ _ ho (fun y hy => h1 y (by simp [hy])) (fun y hy => h2 y (by simp [hy])) (fun y hy => h3 y (by simp [hy])) a1
    refine ⟨b1, fun hb => ?_⟩
    rw [List.foldl_cons] at hb
    simp only [foldR]
    rw [a2 (hle.1 hb), b2 hb]
theorem agree_iter {k nv : Nat} {s' s : List Nat} {f : Mm → Mm × List Ev} {T : Prop} (hs : ∀ i, bt k s i = false → bt k s' i = false) (hf : ∀ m m', AgD k nv s m m' → AgD k nv s' (f m).1 (f m').1 ∧ (T → (f m).2 = (f m').2)) :
    ∀ (n : Nat) (m m' : Mm), AgD k nv s m m' → AgD k nv s (iterR f n m).1 (iterR f n m').1 ∧ (T → (iterR f n m).2 = (iterR f n m').2)
  | 0, m, m', h => ⟨h, fun _ => rfl⟩
  | n + 1, m, m', h => by
    obtain ⟨a1, a2⟩ := agree_iter hs hf n m m' h
    obtain ⟨b1, b2⟩ := hf _ _ a1
    exact ⟨b1.wide hs, fun ht => by simp only [iterR]; rw [a2 ht, b2 ht]⟩

/-- Runs of memories that agree where nothing depends on an input. -/
theorem dep_two {k w : Nat} {p : Pg} (hw : p.vars.length + p.arrays.length = w) : ∀ (d c : Nat) (s : Dp) (t : St1) (m m' : Mm), c < 2 ^ w → c.testBit k = false → Okd w s → stmtOK p d t = true → AgD k p.vars.length s.sets m m' →
    AgD k p.vars.length (depS p.vars.length d c s t).sets (runS d m t).1 (runS d m' t).1 ∧ ((depS p.vars.length d c s t).tr.testBit k = false → (runS d m t).2 = (runS d m' t).2)
  | 0, _, s, _, m, m', _, _, _, _, ha => ⟨ha, fun _ => rfl⟩
  | d + 1, c, s, .mk kd t ix v cc b e, m, m', hc, hk, h, hso, ha => by
    have hV := setE_lt (nv := p.vars.length) h.row 5 v
    have hbo := stmtOK_succ hso
    have hh := head_kind hbo.1
    obtain ⟨s1, s2⟩ := shapeV hso
    have hl : ∀ (c : Nat) (l : List St1) (s : Dp) (m m' : Mm), (∀ x ∈ l, stmtOK p d x = true) → c < 2 ^ w → c.testBit k = false → Okd w s → AgD k p.vars.length s.sets m m' →
        AgD k p.vars.length (l.foldl (depS p.vars.length d c) s).sets (foldR (runS d) m l).1 (foldR (runS d) m' l).1 ∧ ((l.foldl (depS p.vars.length d c) s).tr.testBit k = false → (foldR (runS d) m l).2 = (foldR (runS d) m' l).2) := fun c l s m m' hlo hc hk h ha =>
      agree_list l s m m' h (fun x _ s hs => dep_ok d c s x hc hs) (fun x _ s hs => dep_le d c s x hc hs) (fun x hx s m m' hs ha => dep_two hw d c s x m m' hc hk hs (hlo x hx) ha) ha
    by_cases k4 : kd = 4
    · subst k4
      rw [depS_4, runS_4, runS_4]
      obtain ⟨t, ht, hq, e1, e2⟩ := fix_spec (f := fun s => b.foldl (depS p.vars.length d c) s) (fun s hs => foldl_ok hc b hs) (fun t => ∀ i, bt k t.sets i = false → bt k s.sets i = false)
        (fun t ht hq i hi => hq i (by rw [bt_unite (by rw [(foldl_ok hc b ht).len, ht.len])] at hi; exact (Bool.or_eq_false_iff.1 hi).1)) FU s h (fun _ h => h) (fu_big h.le _)
      rw [e1]
      exact agree_iter (fun i hi => bt_fix ht (foldl_ok hc b ht) e2 i hi) (fun m m' ha => hl c b t m m' hbo.2.1 hc hk ht ha) _ m m' (ha.wide hq)
    have hval := eval_val ha 5 v (s1 k4)
    have hev := eval_ev ha 5 v (s1 k4)
    by_cases k1 : kd = 1
    · subst k1; rw [depS_1, runS_1, runS_1]
      exact ⟨ha.set1 hw h.len (by omega) (by omega) fun hb => hval (bit_or.1 hb).1, fun hb => hev (bit_or.1 hb).2⟩
    by_cases k5 : kd = 5
    · subst k5; rw [depS_5, runS_5, runS_5]
      refine ⟨ha.set1 hw h.len (by omega) (by omega) fun hb => hval (bit_or.1 hb).1, fun hb => ?_⟩
      simp only [bit_or] at hb
      show _ ++ _ = _ ++ _
      rw [hev hb.1.2, hval hb.2.1]
    by_cases k2 : kd = 2
    · subst k2; rw [depS_2, runS_2, runS_2]
      have hiv := eval_val ha 5 ix (s2 rfl)
      refine ⟨ha.set2 hw h.len (by omega) (by omega) fun hb => ?_, fun hb => ?_⟩
      · simp only [bit_or] at hb
        exact ⟨by rw [hiv hb.2.1.2], hval hb.2.1.1, hb.1⟩
      · simp only [bit_or] at hb
        show _ ++ _ = _ ++ _
        rw [hev hb.1.1.2, hiv hb.2]
    have k3 : kd = 3 := by omega
    subst k3
    rw [depS_3]
    have ho := Nat.or_lt_two_pow hc hV.1
    have i1 : Okd w ⟨s.sets, s.tr ||| (setE p.vars.length s.sets 5 v).2 ||| (setE p.vars.length s.sets 5 v).1, s.re⟩ := ⟨h.len, h.le, h.row, Nat.or_lt_two_pow (Nat.or_lt_two_pow h.tr hV.2) hV.1, h.re⟩
    have oy : Okd w (ifY p.vars.length d c s v b) := foldl_ok ho b i1
    have i2 : Okd w ⟨s.sets, (ifY p.vars.length d c s v b).tr, (ifY p.vars.length d c s v b).re⟩ := ⟨h.len, h.le, h.row, oy.tr, oy.re⟩
    have on : Okd w (ifN p.vars.length d c s v b e) := foldl_ok ho e i2
    have hu : ∀ i, bt k (unite (ifY p.vars.length d c s v b).sets (ifN p.vars.length d c s v b e).sets) i = false → bt k (ifY p.vars.length d c s v b).sets i = false ∧ bt k (ifN p.vars.length d c s v b e).sets i = false := fun i hi => by
      rw [bt_unite (by rw [on.len, oy.len])] at hi; exact Bool.or_eq_false_iff.1 hi
    have hi := fun m => runS_if (d := d) (m := m) (t := t) (ix := ix) (v := v) (c := cc) (b := b) (e := e) k4 k1 k5 k2
    cases hVb : (setE p.vars.length s.sets 5 v).1.testBit k with
    | true =>
      refine ⟨?_, fun hb => ?_⟩
      · have hk2 : (c ||| (setE p.vars.length s.sets 5 v).1).testBit k = true := by simp [Nat.testBit_or, hVb]
        have hy : ∀ m, Conf k p.vars.length (ifY p.vars.length d c s v b).sets s.sets m (foldR (runS d) m b).1 := fun m => conf_list b _ m i1 (fun x _ s hs => dep_ok d _ s x ho hs) fun x hx s m hs => dep_conf hw d _ s x m ho hk2 hs (hbo.2.1 x hx)
        have hn : ∀ m, Conf k p.vars.length (ifN p.vars.length d c s v b e).sets s.sets m (foldR (runS d) m e).1 := fun m => conf_list e _ m i2 (fun x _ s hs => dep_ok d _ s x ho hs) fun x hx s m hs => dep_conf hw d _ s x m ho hk2 hs (hbo.2.2 x hx)
        have hz : ∀ m, Conf k p.vars.length (unite (ifY p.vars.length d c s v b).sets (ifN p.vars.length d c s v b e).sets) s.sets m (runS (d + 1) m (.mk 3 t ix v cc b e)).1 := fun m => by
          by_cases hv : (evalE m 5 v).1 = 0
          · rw [(hi m).2 hv]; exact (hn m).wide (fun i h => (hu i h).2) fun i _ h => h
          · rw [(hi m).1 hv]; exact (hy m).wide (fun i h => (hu i h).1) fun i _ h => h
        exact ha.conf (hz m) (hz m') fun i h => ⟨h, h⟩
      · have := (if_trace hc h hb).2.1
        rw [hVb] at this; cases this
    | false =>
      have hk2 : (c ||| (setE p.vars.length s.sets 5 v).1).testBit k = false := bit_or.2 ⟨hk, hVb⟩
      have hy := hl _ b _ m m' hbo.2.1 ho hk2 i1 ha
      have hn := hl _ e _ m m' hbo.2.2 ho hk2 i2 ha
      have hvv := hval hVb
      by_cases hv : (evalE m 5 v).1 = 0
      · rw [(hi m).2 hv, (hi m').2 (by rw [← hvv]; exact hv)]
        refine ⟨hn.1.wide fun i h => (hu i h).2, fun hb => ?_⟩
        obtain ⟨t1, t2, t3⟩ := if_trace hc h hb
        show _ ++ _ ++ _ = _ ++ _ ++ _
        rw [hev t3, hn.2 hb]
      · rw [(hi m).1 hv, (hi m').1 (by rw [← hvv]; exact hv)]
        refine ⟨hy.1.wide fun i h => (hu i h).1, fun hb => ?_⟩
        obtain ⟨t1, t2, t3⟩ := if_trace hc h hb
        show _ ++ _ ++ _ = _ ++ _ ++ _
        rw [hev t3, hy.2 t1]
end Go.Proofs.YtehmajhoaibphaaGreat.CtR

namespace Go.Proofs.YtehmajhoaibphaaGreat.CtD
open Go Go.CT CtF CtR

def nI (S : List Nat) : List Int := S.map fun (n : Nat) => (n : Int)
theorem nI_len (S : List Nat) : (nI S).length = S.length := by simp [nI]
theorem nI_at {S : List Nat} {i : Nat} (h : i < S.length) : (nI S)[i]? = some ((dat S i : Nat) : Int) := by
  unfold nI dat; rw [List.getElem?_map, List.getD_eq_getElem?_getD, List.getElem?_eq_getElem h]; rfl
theorem nI_set (S : List Nat) (i x : Nat) : (nI S).set i (x : Int) = nI (S.set i x) := by unfold nI; rw [List.map_set]
theorem nI_put (S : List Nat) (i x : Nat) : ((nI S).map I64).set i (.v (.int .i64 (x : Int))) = (nI (S.set i x)).map I64 := by rw [← nI_set, List.map_set]
theorem nI_inj : ∀ {S T : List Nat}, nI S = nI T → S = T
  | [], [], _ => rfl
  | [], _ :: _, h => by simp [nI] at h
  | _ :: _, [], h => by simp [nI] at h
  | a :: r, b :: q, h => by
    simp only [nI, List.map_cons, List.cons.injEq] at h
    rw [nI_inj (S := r) (T := q) h.2, show a = b by omega]
def dpB (p : Pg) (tr re : Nat) : List C := p.cells ++ [I64 (tr : Int), I64 (re : Int)]
theorem dpB_eq (p : Pg) (tr re : Nat) : dpB p tr re = [isI p.vars, isI p.arrays, .isl 11 (St1.cellsL p.body), I64 (tr : Int), I64 (re : Int)] := rfl
theorem dpB_kf (p : Pg) (tr re : Nat) : kfs (dpB p tr re) = true := by
  rw [dpB_eq]; rfl
theorem dpB_ren (r : Nat → Nat) (p : Pg) (tr re : Nat) : renCs r (dpB p tr re) = dpB p tr re := renCs_plain _ (dpB_kf _ _ _)
theorem dpB_all (p : Pg) (tr re : Nat) : ∀ c ∈ dpB p tr re, kf c = true := by
  rw [dpB_eq]; intro c hc
  simp only [List.mem_cons, List.not_mem_nil, or_false] at hc
  rcases hc with rfl | rfl | rfl | rfl | rfl <;> rfl
theorem pow14 {w x : Nat} (hw : w ≤ 14) (h : x < 2 ^ w) : x < 16384 := by
  have : 2 ^ w ≤ 2 ^ 14 := Nat.pow_le_pow_right (by omega) hw
  omega
def fst1 (f : Ex → Nat × Nat) (ks : List Ex) (i : Nat) : Nat := orL ((ks.take i).map fun e => (f e).1)
def snd1 (f : Ex → Nat × Nat) (ks : List Ex) (i : Nat) : Nat := orL ((ks.take i).map fun e => (f e).2)
theorem fst1_succ (f : Ex → Nat × Nat) (ks : List Ex) (i : Nat) (x : Ex) (h : ks[i]? = some x) : fst1 f ks (i + 1) = fst1 f ks i ||| (f x).1 := by
  unfold fst1 orL; rw [List.take_add_one, h]; simp
theorem snd1_succ (f : Ex → Nat × Nat) (ks : List Ex) (i : Nat) (x : Ex) (h : ks[i]? = some x) : snd1 f ks (i + 1) = snd1 f ks i ||| (f x).2 := by
  unfold snd1 orL; rw [List.take_add_one, h]; simp
theorem fst1_lt {w : Nat} {f : Ex → Nat × Nat} (hf : ∀ e, (f e).1 < 2 ^ w) (ks : List Ex) (i : Nat) : fst1 f ks i < 2 ^ w := orL_lt (Nat.two_pow_pos w) fun x hx => by
  obtain ⟨e, _, rfl⟩ := List.mem_map.1 hx; exact hf e
theorem snd1_lt {w : Nat} {f : Ex → Nat × Nat} (hf : ∀ e, (f e).2 < 2 ^ w) (ks : List Ex) (i : Nat) : snd1 f ks i < 2 ^ w := orL_lt (Nat.two_pow_pos w) fun x hx => by
  obtain ⟨e, _, rfl⟩ := List.mem_map.1 hx; exact hf e
theorem setE_succ (nv : Nat) (S : List Nat) (d : Nat) (k v : Int) (ks : List Ex) : setE nv S (d + 1) (.mk k v ks) =
    (if k = 2 then (fst1 (setE nv S d) ks ks.length ||| dat S v.toNat, snd1 (setE nv S d) ks ks.length)
     else if k = 3 then (fst1 (setE nv S d) ks ks.length ||| dat S (nv + v.toNat), snd1 (setE nv S d) ks ks.length ||| fst1 (setE nv S d) ks ks.length)
     else (fst1 (setE nv S d) ks ks.length, snd1 (setE nv S d) ks ks.length)) := by
  simp only [setE, fst1, snd1, List.take_length]
theorem cellI (p : Pg) (hl : p.vars.length ≤ 14) (n : Nat) (hn : n ≤ 14) : DC Tryz.prog 165 [.agg p.cells, DI .i64 (n : Int)] [] (fun r h => r = DI .i64 ((p.vars.length + n : Nat) : Int) ∧ h = []) := by
  obtain ⟨vs, ar, bd⟩ := p
  have hl : vs.length ≤ 14 := hl
  simp only
  have hmx := mx_eq
  generalize hR : (fun (r : D) (h : List (Option (List C))) => r = DI .i64 ((vs.length + n : Nat) : Int) ∧ h = []) = R
  refine dcZ Tryz.func165 ?_
  simp (maxSteps := 9999999) only [go_sem]
  iterate 3 ((try (refine drvZ Tryz.func165 ?_; simp (maxSteps := 9999999) only [go_sem])); (try ((with_reducible refine And.intro ?_ ?_) <;> (repeat' with_reducible apply And.intro) <;> try exact sd)); (try first | refine XK.gs (DB false) ?_))
  refine RetOb.plain (d := DI .i64 _) ?_ rfl
  rw [← hR]
  exact ⟨by push_cast; rfl, rfl⟩
end Go.Proofs.YtehmajhoaibphaaGreat.CtD
