/- Contracts of functions of the program, one behind the other, as plain data: what each call returns and which blocks it leaves. -/
import Derived.Test.YtjjjidcbokbhpaaGreatFFacts
import Derived.Test.YtjjjidcbokbhpaaGreatFAj
import Derived.Test.YtjjjidcbokbhpaaGreatFAk
import Derived.Test.YtjjjidcbokbhpaaGreatFAl
import Derived.Test.YtjjjidcbokbhpaaGreatFAm
import Derived.Test.YtjjjidcbokbhpaaGreatFAn
import Derived.Test.YtjjjidcbokbhpaaGreatFAh
import Derived.Test.YtjjjidcbokbhpaaGreatFAo
import Derived.Test.YtjjjidcbokbhpaaGreatFAp
set_option linter.unusedVariables false
set_option linter.unusedSimpArgs false
set_option maxHeartbeats 16000000
set_option maxRecDepth 100000
namespace Go.Proofs.YtjjjidcbokbhpaaGreat.CtD
open Go Go.CT CtF CtR

theorem runP_sm (p : Pg) (m : Mm) : (runP p m).1.vals.length ≤ 12 ∧ (runP p m).1.arrays.length ≤ 2 ∧ (∀ a ∈ (runP p m).1.arrays, a.length ≤ 4) ∧ (runP p m).2.1.length ≤ 1000000 := by
  cases hq : (progOK p && memOK p.vars p.arrays m) with
  | false => rw [runP_false hq]; simp
  | true =>
    rw [runP_true hq]
    have hm := memFits_of hq
    simp only [Bool.and_eq_true] at hq
    have hb := body_of hq.1
    have h := runL_ok hm hb.1
    have h2 := h.2
    rw [wt5] at h2
    refine ⟨by rw [h.1.nv]; exact hm.nv12.2, by rw [h.1.na]; exact hm.na2, fun a ha => by have := (h.1.arr a ha).1; omega, ?_⟩
    have := hb.2
    simp only
    omega

end Go.Proofs.YtjjjidcbokbhpaaGreat.CtD

namespace Go.Proofs.YtjjjidcbokbhpaaGreat.CtR
open Go Go.CT CtF

/-- The cells that an expression reads, as bits. -/
def occB (nv : Nat) (k v : Int) : Nat := if k = 2 then 2 ^ v.toNat else if k = 3 then 2 ^ (nv + v.toNat) else 0
def occN (nv : Nat) : Nat → Ex → Nat
  | 0, _ => 0
  | d + 1, .mk k v ks => (ks.map (occN nv d)).foldl (fun a b => a ||| b) (occB nv k v)
end Go.Proofs.YtjjjidcbokbhpaaGreat.CtR

namespace Go.Proofs.YtjjjidcbokbhpaaGreat.CtD
open Go Go.CT CtF CtR

theorem ownExpr (p : Pg) : ∀ (d : Nat) (e : Ex), CtR.shape p d e = true → DC Tryz.prog 114 [.agg e.cells] [] (fun r h => r = .agg e.cells ∧ h = []) := by
  have hmx := mx_eq
  intro d
  induction d with
  | zero => intro e h; simp [CtR.shape] at h
  | succ d ih =>
    intro e hsh
    obtain ⟨k, v, ks⟩ := e
    obtain ⟨g1, g2, g3⟩ := shape_succ hsh
    obtain ⟨hl3, hla, hv0, hv1⟩ := fits_len g1
    refine dcZ Tryz.func114 ?_
    simp (maxSteps := 9999999) only [go_sem]
    iterate 2 ((try (refine drvZ Tryz.func114 ?_; simp (maxSteps := 9999999) only [go_sem])); (try ((with_reducible refine And.intro ?_ ?_) <;> (repeat' with_reducible apply And.intro) <;> try exact sd)))
    refine Go.loopQ (fun i : Nat => [(1, .c (.ptr 0 0)), (2, .c (.ptr 64 0)), (3, .c (.ptr 66 0)), (12, .c (.isl 3 (Ex.cellsL ks))), (13, DI .i64 ks.length), (14, DI .i64 i)])
      (fun i => [(0, some (Ex.cells (.mk k v ks))), (64, some [I64 0, I64 0, .v (.slice none 0 0)]), (66, some [I64 k, I64 v, .msl 67 3 0 i]), (67, some (exC (ks.take i)))])
      4096 (fun i => i ≤ ks.length) (fun i => ks.length - i) ?_ 0 (fun j => if j = 66 then some 448 else if j = 67 then none else some j) [] _ (Nat.zero_le _) ?_
    · intro i hi again
      rcases Nat.lt_or_ge i ks.length with hlt | hge
      · obtain ⟨⟨k', v', ks'⟩, hx⟩ : ∃ x, ks[i]? = some x := ⟨ks[i], by simp [hlt]⟩
        have hsx : ks.take (i + 1) = ks.take i ++ [.mk k' v' ks'] := by rw [List.take_add_one, hx]; rfl
        have hel : (exC (ks.take i)).length = i * 3 := by rw [exC_len, List.length_take]; congr 1; omega
        refine drvL Tryz.func114 ?_
        simp (maxSteps := 9999999) only [go_sem, hx, hlt]
        iterate 2 ((try (refine drvZ Tryz.func114 ?_; simp (maxSteps := 9999999) only [go_sem, hx, hlt])); (try ((with_reducible refine And.intro ?_ ?_) <;> (repeat' with_reducible apply And.intro) <;> try exact sd)))
        refine XK.plain (ih _ (g2 _ (List.mem_of_getElem? hx))) ok114 ?_ (hbT ()) (fun _ => by kernel_rfl)
        iterate 4 ((try (refine drvZ Tryz.func114 ?_; simp (maxSteps := 9999999) only [go_sem, hx, hlt, hel])); (try ((with_reducible refine And.intro ?_ ?_) <;> (repeat' with_reducible apply And.intro) <;> try exact sd)))
        refine again (i + 1) (fun j => if j = 67 then some 4736 else some j) [] _ hlt (by omega) ?_
        simp (maxSteps := 9999999) only [go_sem, TmOK, DM, DMs, CM, CMs, forall_eq, exists_eq_left, Mq, HpOK, LowOK, hsx, exC_snoc]
        simp
        exact CMs.kf (kf_app (exC_kf _) (by simp [kf]))
      · have hn : ¬ i < ks.length := by omega
        obtain rfl : i = ks.length := by omega
        refine drvL Tryz.func114 ?_
        simp (maxSteps := 9999999) only [go_sem, hn, List.take_length]
        iterate 2 ((try (refine drvZ Tryz.func114 ?_; simp (maxSteps := 9999999) only [go_sem, hn, List.take_length])); (try ((with_reducible refine And.intro ?_ ?_) <;> (repeat' with_reducible apply And.intro) <;> try exact sd)))
        refine RetOb.ofQ (fun j => none) [67] (.agg (Ex.cells (.mk k v ks))) [] ?_ ⟨rfl, rfl⟩ (by simp)
        have g1 : (Ex.cellsL ks).flatten = exC ks := by rw [Ex.cellsL_eq]; rfl
        have g2 : ∀ x ∈ Ex.cellsL ks, x.length = 3 := fun x hx => by rw [Ex.cellsL_eq] at hx; obtain ⟨e, _, rfl⟩ := List.mem_map.1 hx; exact Ex.cells_len e
        have g3 : ∀ x ∈ Ex.cellsL ks, ∀ c ∈ x, kf c = true := fun x hx => by rw [Ex.cellsL_eq] at hx; obtain ⟨e, _, rfl⟩ := List.mem_map.1 hx; exact ex_kf e
        simp only [enumL, hOf, DM, DMs, CM, CMs, HpOK, LowOK, upd, Ex.cells, Ex.cellsL_length, g1]
        first | (simp; exact ⟨g2, g3⟩) | (simp [g2]; exact g3) | exact ⟨g2, g3⟩
    · simp (maxSteps := 9999999) only [go_sem, TmOK, DM, DMs, CM, CMs, forall_eq, exists_eq_left, Mq, HpOK, LowOK]
      simp [exC]

theorem ownExpr0 : DC Tryz.prog 114 [.agg (Ex.cells (.mk 0 0 []))] [] (fun r h => r = .agg (Ex.cells (.mk 0 0 [])) ∧ h = []) := by
  refine dcZ Tryz.func114 ?_
  simp (maxSteps := 9999999) only [go_sem, Ex.cellsL, Int.natCast_zero]
  iterate 2 ((try (refine drvZ Tryz.func114 ?_; simp (maxSteps := 9999999) only [go_sem, Ex.cellsL, Int.natCast_zero])); (try ((with_reducible refine And.intro ?_ ?_) <;> (repeat' with_reducible apply And.intro) <;> try exact sd)))
  refine Go.loop ?_
  have hz : ((0 : Int) < 0) = False := eq_false (by omega)
  refine drvL Tryz.func114 ?_
  simp (maxSteps := 9999999) only [go_sem, Ex.cellsL, Int.natCast_zero, hz]
  iterate 2 ((try (refine drvZ Tryz.func114 ?_; simp (maxSteps := 9999999) only [go_sem, Ex.cellsL, Int.natCast_zero, hz])); (try ((with_reducible refine And.intro ?_ ?_) <;> (repeat' with_reducible apply And.intro) <;> try exact sd)))
  refine RetOb.ofQ (fun j => none) [] (.agg (Ex.cells (.mk 0 0 []))) [] ?_ ⟨rfl, rfl⟩ (by simp)
  simp [enumL, hOf, DM, DMs, CM, CMs, HpOK, LowOK, upd, Ex.cells, Ex.cellsL]
end Go.Proofs.YtjjjidcbokbhpaaGreat.CtD

namespace Go.Proofs.YtjjjidcbokbhpaaGreat.CtD
open Go Go.CT CtF CtR

theorem none0_eq {e : Ex} (h : none0 e = true) : e = .mk 0 0 [] := by
  obtain ⟨k, v, ks⟩ := e
  simp only [none0, Ex.kind, Ex.value, Ex.kids, Bool.and_eq_true, beq_iff_eq, decide_eq_true_eq] at h
  obtain ⟨⟨rfl, rfl⟩, h3⟩ := h
  have : ks = [] := List.isEmpty_iff.1 h3
  rw [this]
theorem exprs_of {p : Pg} {d : Nat} {k t : Int} {ix v : Ex} {c : Int} {b e : List St1} (h : stmtOK p (d + 1) (.mk k t ix v c b e) = true) :
    (CtR.shape p 5 ix = true ∨ ix = .mk 0 0 []) ∧ (CtR.shape p 5 v = true ∨ v = .mk 0 0 []) := by
  have h1 := (stmtOK_succ h).1
  have hk := head_kind h1
  unfold headOK parts at h1
  rcases hk with ⟨hk, _, _, hr⟩ | ⟨rfl, _, _, hr, _, hr2⟩ | ⟨rfl, hr⟩ | ⟨rfl, _⟩
  · refine ⟨.inr (none0_eq ?_), .inl (right_shape hr).1⟩
    have hk4 : k ≠ 4 := by omega
    have hk2 : (k == 2) = false := by simp; omega
    simp [hk4, hk2] at h1
    exact h1.1.2.2
  · exact ⟨.inl (right_shape hr).1, .inl (right_shape hr2).1⟩
  · refine ⟨.inr (none0_eq ?_), .inl (right_shape hr).1⟩
    simp at h1
    exact h1.1.2.2
  · simp at h1
    refine ⟨.inr (none0_eq ?_), .inr (none0_eq ?_)⟩ <;> grind
end Go.Proofs.YtjjjidcbokbhpaaGreat.CtD

namespace Go.Proofs.YtjjjidcbokbhpaaGreat.CtD
open Go Go.CT CtF CtR

theorem ownE {p : Pg} {e : Ex} (h : CtR.shape p 5 e = true ∨ e = .mk 0 0 []) : DC Tryz.prog 114 [.agg e.cells] [] (fun r h => r = .agg e.cells ∧ h = []) := by
  rcases h with h | rfl
  · exact ownExpr p 5 e h
  · exact ownExpr0

theorem ownStmts (p : Pg) : ∀ (d : Nat) (l : List St1), (∀ s ∈ l, stmtOK p d s = true) → lsize d l ≤ 1000 → DC Tryz.prog 50 [.c (.isl 11 (St1.cellsL l))] [] (fun r h => r = .c (.isl 11 (St1.cellsL l)) ∧ h = []) := by
  have hmx := mx_eq
  intro d
  induction d with
  | zero =>
    intro l hok hsz
    have hnil : l = [] := by
      cases l with
      | nil => rfl
      | cons a r => have := hok a (by simp); simp [stmtOK] at this
    subst hnil
    refine dcZ Tryz.func50 ?_
    simp (maxSteps := 9999999) only [go_sem, St1.cellsL, Int.natCast_zero]
    ((try (refine drvZ Tryz.func50 ?_; simp (maxSteps := 9999999) only [go_sem, St1.cellsL, Int.natCast_zero])); (try ((with_reducible refine And.intro ?_ ?_) <;> (repeat' with_reducible apply And.intro) <;> try exact sd)))
    refine Go.loop ?_
    have hz : ((0 : Int) < 0) = False := eq_false (by omega)
    refine drvL Tryz.func50 ?_
    simp (maxSteps := 9999999) only [go_sem, St1.cellsL, Int.natCast_zero, hz]
    ((try (refine drvZ Tryz.func50 ?_; simp (maxSteps := 9999999) only [go_sem, St1.cellsL, Int.natCast_zero, hz])); (try ((with_reducible refine And.intro ?_ ?_) <;> (repeat' with_reducible apply And.intro) <;> try exact sd)))
    refine RetOb.ofQ (fun j => none) [] (.c (.isl 11 [])) [] ?_ ⟨rfl, rfl⟩ (by simp)
    simp [enumL, hOf, DM, CM, HpOK, LowOK, upd]
  | succ d ih =>
    intro l hok hsz
    have hsub := lsize_subs d l
    refine dcZ Tryz.func50 ?_
    simp (maxSteps := 9999999) only [go_sem]
    ((try (refine drvZ Tryz.func50 ?_; simp (maxSteps := 9999999) only [go_sem])); (try ((with_reducible refine And.intro ?_ ?_) <;> (repeat' with_reducible apply And.intro) <;> try exact sd)))
    refine Go.loopQ (fun i : Nat => [(3, .c (.msl 67 11 0 i)), (6, .c (.isl 11 (St1.cellsL l))), (7, DI .i64 l.length), (8, DI .i64 i)]) (fun i => [(67, some (stC (l.take i)))])
      4096 (fun i => i ≤ l.length) (fun i => l.length - i) ?_ 0 (fun j => none) [] _ (Nat.zero_le _) ?_
    · intro i hi again
      rcases Nat.lt_or_ge i l.length with hlt | hge
      · obtain ⟨⟨k, t, ⟨ik, iv, iks⟩, ⟨vk, vv, vks⟩, c, b, e⟩, hx⟩ : ∃ x, l[i]? = some x := ⟨l[i], by simp [hlt]⟩
        have hsx : l.take (i + 1) = l.take i ++ [.mk k t (.mk ik iv iks) (.mk vk vv vks) c b e] := by rw [List.take_add_one, hx]; rfl
        have hel : (stC (l.take i)).length = i * 11 := by rw [stC_len, List.length_take]; congr 1; omega
        have hsok := hok _ (List.mem_of_getElem? hx)
        have hex := exprs_of hsok
        have hbe := stmtOK_succ hsok
        have a1 := tsum_succ (subs d) l i _ hx
        have a2 := tsum_le (subs d) l (i + 1)
        simp only [subs, St1.body, St1.els] at a1 a2
        have ihb := ih b hbe.2.1 (by omega)
        have ihe := ih e hbe.2.2 (by omega)
        refine drvL Tryz.func50 ?_
        simp (maxSteps := 9999999) only [go_sem, hx, hlt]
        iterate 3 ((try (refine drvZ Tryz.func50 ?_; simp (maxSteps := 9999999) only [go_sem, hx, hlt])); (try ((with_reducible refine And.intro ?_ ?_) <;> (repeat' with_reducible apply And.intro) <;> try exact sd)))
        refine XK.plain (ownE hex.1) ok114 ?_ (hbT ()) (fun _ => by kernel_rfl)
        iterate 2 ((try (refine drvZ Tryz.func50 ?_; simp (maxSteps := 9999999) only [go_sem])); (try ((with_reducible refine And.intro ?_ ?_) <;> (repeat' with_reducible apply And.intro) <;> try exact sd)))
        refine XK.plain (ownE hex.2) ok114 ?_ (hbT ()) (fun _ => by kernel_rfl)
        iterate 2 ((try (refine drvZ Tryz.func50 ?_; simp (maxSteps := 9999999) only [go_sem])); (try ((with_reducible refine And.intro ?_ ?_) <;> (repeat' with_reducible apply And.intro) <;> try exact sd)))
        refine XK.plain ihb ok50 ?_ (hbT ()) (fun _ => by kernel_rfl)
        iterate 2 ((try (refine drvZ Tryz.func50 ?_; simp (maxSteps := 9999999) only [go_sem])); (try ((with_reducible refine And.intro ?_ ?_) <;> (repeat' with_reducible apply And.intro) <;> try exact sd)))
        refine XK.plain ihe ok50 ?_ (hbT ()) (fun _ => by kernel_rfl)
        iterate 4 ((try (refine drvZ Tryz.func50 ?_; simp (maxSteps := 9999999) only [go_sem, hel])); (try ((with_reducible refine And.intro ?_ ?_) <;> (repeat' with_reducible apply And.intro) <;> try exact sd)))
        refine again (i + 1) (fun j => if j = 67 then some 5760 else some j) [] _ hlt (by omega) ?_
        simp (maxSteps := 9999999) only [go_sem, TmOK, DM, DMs, CM, CMs, forall_eq, exists_eq_left, Mq, HpOK, LowOK, hsx, stC_snoc, List.cons_append, List.nil_append]
        simp
        exact CMs.kf (kf_app (stC_kf _) (by simp [kf]))
      · have hn : ¬ i < l.length := by omega
        obtain rfl : i = l.length := by omega
        refine drvL Tryz.func50 ?_
        simp (maxSteps := 9999999) only [go_sem, hn, List.take_length]
        iterate 2 ((try (refine drvZ Tryz.func50 ?_; simp (maxSteps := 9999999) only [go_sem, hn, List.take_length])); (try ((with_reducible refine And.intro ?_ ?_) <;> (repeat' with_reducible apply And.intro) <;> try exact sd)))
        refine RetOb.ofQ (fun j => none) [67] (.c (.isl 11 (St1.cellsL l))) [] ?_ ⟨rfl, rfl⟩ (by simp)
        have g1 : (St1.cellsL l).flatten = stC l := by rw [St1.cellsL_eq]; rfl
        have g2 : ∀ x ∈ St1.cellsL l, x.length = 11 := fun x hx => by rw [St1.cellsL_eq] at hx; obtain ⟨e, _, rfl⟩ := List.mem_map.1 hx; exact St1.cells_len e
        have g3 : ∀ x ∈ St1.cellsL l, ∀ c ∈ x, kf c = true := fun x hx => by rw [St1.cellsL_eq] at hx; obtain ⟨e, _, rfl⟩ := List.mem_map.1 hx; exact st_kf e
        simp only [enumL, hOf, DM, DMs, CM, CMs, HpOK, LowOK, upd, St1.cellsL_length, g1]
        first | (simp; exact ⟨g2, g3⟩) | (simp [g2]; exact g3) | exact ⟨g2, g3⟩
    · simp (maxSteps := 9999999) only [go_sem, TmOK, DM, DMs, CM, CMs, forall_eq, exists_eq_left, Mq, HpOK, LowOK]
      simp [stC]
end Go.Proofs.YtjjjidcbokbhpaaGreat.CtD

namespace Go.Proofs.YtjjjidcbokbhpaaGreat.CtD
open Go Go.CT CtF CtR

/-- A statement of a slice, the wanted cells given as a predicate. -/
def cutS (q : Nat → Bool) (nv : Nat) (f : List St1 → List St1) : St1 → Option St1
  | .mk k t ix v c b e =>
    if k = 5 then some (.mk k t ix v c b e) else if k = 1 then (if q t.toNat then some (.mk k t ix v c b e) else none) else if k = 2 then (if q (nv + t.toNat) then some (.mk k t ix v c b e) else none)
    else if 0 < (f b).length + (f e).length then some (.mk k t ix v c (f b) (f e)) else none
def cutL (q : Nat → Bool) (nv : Nat) : Nat → List St1 → List St1
  | 0, _ => []
  | d + 1, l => l.filterMap (cutS q nv (cutL q nv d))
/-- The cells that the statements of a slice read, added to a set. -/
def addS (q : Nat → Bool) (nv : Nat) (f : List St1 → List St1) (g : List St1 → Nat) (a : Nat) : St1 → Nat
  | .mk k t ix v c b e =>
    let a1 := if k = 5 ∨ k = 1 ∨ k = 2 then a else a ||| (g b ||| g e)
    if (cutS q nv f (.mk k t ix v c b e)).isSome then a1 ||| (occN nv 5 v ||| occN nv 5 ix) else a1
def setN (q : Nat → Bool) (nv : Nat) : Nat → List St1 → Nat
  | 0, _ => 0
  | d + 1, l => l.foldl (addS q nv (cutL q nv d) (setN q nv d)) 0

end Go.Proofs.YtjjjidcbokbhpaaGreat.CtD

namespace Go.Proofs.YtjjjidcbokbhpaaGreat.CtD
open Go Go.CT CtF CtR

/-! Slices, plain: the least closed set. -/
def subB (a : Nat) (q : Nat → Bool) : Prop := ∀ i, a.testBit i = true → q i = true
theorem subB_or {a b : Nat} {q : Nat → Bool} : subB (a ||| b) q ↔ subB a q ∧ subB b q := by
  unfold subB
  constructor
  · intro h
    exact ⟨fun i hi => h i (by rw [Nat.testBit_or, hi, Bool.true_or]), fun i hi => h i (by rw [Nat.testBit_or, hi, Bool.or_true])⟩
  · rintro ⟨h1, h2⟩ i hi
    rw [Nat.testBit_or, Bool.or_eq_true] at hi
    exact hi.elim (h1 i) (h2 i)
theorem subB_zero (q : Nat → Bool) : subB 0 q := fun i h => by simp at h
def leB (q q' : Nat → Bool) : Prop := ∀ i, q i = true → q' i = true
/-- With more cells, a slice keeps more, and reads more. -/
theorem cut_mono (nv : Nat) {q q' : Nat → Bool} (h : leB q q') : ∀ (d : Nat) (l : List St1), (0 < (cutL q nv d l).length → 0 < (cutL q' nv d l).length) ∧ ∀ r, subB (setN q' nv d l) r → subB (setN q nv d l) r := by
  intro d
  induction d with
  | zero => intro l; exact ⟨fun h => h, fun r h => h⟩
  | succ d ih =>
    have hS : ∀ s, (cutS q nv (cutL q nv d) s).isSome = true → (cutS q' nv (cutL q' nv d) s).isSome = true := fun s => by
      obtain ⟨k, t, ix, v, c, b, e⟩ := s
      simp only [cutS]
      by_cases h5 : k = 5
      · simp [h5]
      · by_cases h1 : k = 1
        · simp only [h5, h1, if_false, if_true]
          cases hq : q t.toNat with
          | false => simp
          | true => simp [h _ hq]
        · by_cases h2 : k = 2
          · simp only [h5, h1, h2, if_false, if_true]
            cases hq : q (nv + t.toNat) with
            | false => simp
            | true => simp [h _ hq]
          · simp only [h5, h1, h2, if_false]
            intro hh
            have : 0 < (cutL q nv d b).length + (cutL q nv d e).length := by
              by_cases h0 : 0 < (cutL q nv d b).length + (cutL q nv d e).length
              · exact h0
              · rw [if_neg h0] at hh; simp at hh
            have h3 := (ih b).1
            have h4 := (ih e).1
            rw [if_pos (by omega)]; rfl
    have hA : ∀ s r a a', (subB a' r → subB a r) → subB (addS q' nv (cutL q' nv d) (setN q' nv d) a' s) r → subB (addS q nv (cutL q nv d) (setN q nv d) a s) r := fun s r a a' haa => by
      have hss := hS s
      obtain ⟨k, t, ix, v, c, b, e⟩ := s
      simp only [addS]
      have hb := (ih b).2 r
      have he := (ih e).2 r
      have h1 : subB (if k = 5 ∨ k = 1 ∨ k = 2 then a' else a' ||| (setN q' nv d b ||| setN q' nv d e)) r → subB (if k = 5 ∨ k = 1 ∨ k = 2 then a else a ||| (setN q nv d b ||| setN q nv d e)) r := by
        split
        · exact haa
        · intro hh
          rw [subB_or, subB_or] at hh ⊢
          exact ⟨haa hh.1, hb hh.2.1, he hh.2.2⟩
      intro hh
      cases hc : (cutS q nv (cutL q nv d) (.mk k t ix v c b e)).isSome with
      | true =>
        rw [hss hc] at hh
        simp only [if_true] at hh ⊢
        rw [subB_or] at hh ⊢
        exact ⟨h1 hh.1, hh.2⟩
      | false =>
        simp only [Bool.false_eq_true, if_false]
        apply h1
        split at hh
        · exact (subB_or.1 hh).1
        · exact hh
    intro l
    refine ⟨fun hl => ?_, fun r => ?_⟩
    · simp only [cutL] at hl ⊢
      obtain ⟨x, hx⟩ := List.exists_mem_of_length_pos hl
      obtain ⟨s, hs, he⟩ := List.mem_filterMap.1 hx
      have := hS s (by rw [he]; rfl)
      obtain ⟨y, hy⟩ := Option.isSome_iff_exists.1 this
      exact List.length_pos_of_mem (List.mem_filterMap.2 ⟨s, hs, hy⟩)
    · simp only [setN]
      have gen : ∀ (l : List St1) (a a' : Nat), (subB a' r → subB a r) → subB (l.foldl (addS q' nv (cutL q' nv d) (setN q' nv d)) a') r → subB (l.foldl (addS q nv (cutL q nv d) (setN q nv d)) a) r := fun l => by
        induction l with
        | nil => intro a a' h; exact h
        | cons s t iht => intro a a' h; exact iht _ _ (hA s r a a' h)
      exact gen l 0 0 (fun h => h)

structure Least (p : Pg) (ws : List Bool) (q : Nat → Bool) : Prop where
  want : ∀ i, ws.getD i false = true → q i = true
  closed : subB (setN q p.vars.length 5 p.body) q
  least : ∀ q' : Nat → Bool, (∀ i, ws.getD i false = true → q' i = true) → subB (setN q' p.vars.length 5 p.body) q' → leB q q'
theorem Least.eq {p : Pg} {ws : List Bool} {q q' : Nat → Bool} (h : Least p ws q) (h' : Least p ws q') : q = q' := funext fun i => by
  have h1 := h.least q' h'.want h'.closed i
  have h2 := h'.least q h.want h.closed i
  cases ha : q i <;> cases hb : q' i <;> simp_all

end Go.Proofs.YtjjjidcbokbhpaaGreat.CtD

namespace Go.Proofs.YtjjjidcbokbhpaaGreat.CtD
open Go Go.CT CtF CtR

def slP (p : Pg) (q : Nat → Bool) : Pg := ⟨p.vars, p.arrays, cutL q p.vars.length 5 p.body⟩
end Go.Proofs.YtjjjidcbokbhpaaGreat.CtD

namespace Go.Proofs.YtjjjidcbokbhpaaGreat.CtR
end Go.Proofs.YtjjjidcbokbhpaaGreat.CtR
namespace Go.Proofs.YtjjjidcbokbhpaaGreat.CtD
open Go Go.CT CtF CtR

def usesL (nv : Nat) : Nat → Ex → List Bool → List Bool
  | 0, _, L => L
  | d + 1, .mk k v ks, L => ks.foldl (fun L x => usesL nv d x L) (if k = 2 then L.set v.toNat true else if k = 3 then L.set (nv + v.toNat) true else L)
theorem usesL_len (nv : Nat) : ∀ (d : Nat) (e : Ex) (L : List Bool), (usesL nv d e L).length = L.length
  | 0, _, L => rfl
  | d + 1, .mk k v ks, L => by
    have gen : ∀ (ks : List Ex) (L : List Bool), (ks.foldl (fun L x => usesL nv d x L) L).length = L.length := fun ks => by
      induction ks with
      | nil => intro L; rfl
      | cons a r ih => intro L; rw [List.foldl_cons, ih, usesL_len nv d a L]
    simp only [usesL]
    rw [gen]
    split
    · simp
    · split <;> simp

end Go.Proofs.YtjjjidcbokbhpaaGreat.CtD

namespace Go.Proofs.YtjjjidcbokbhpaaGreat.CtD
open Go Go.CT CtF CtR

def needS (nv : Nat) (f : List St1 → List Bool → Bool × List Bool) (L : List Bool) : St1 → Bool × List Bool
  | .mk k t ix v c b e =>
    let y := if k = 1 then (L.getD t.toNat false, L) else if k = 2 then (L.getD (nv + t.toNat) false, L) else if k = 5 then (true, L) else ((f b L).1 || (f e (f b L).2).1, (f e (f b L).2).2)
    (y.1, if y.1 then usesL nv 5 ix (usesL nv 5 v y.2) else y.2)
def needL (nv : Nat) : Nat → List St1 → List Bool → Bool × List Bool
  | 0, _, L => (false, L)
  | d + 1, l, L => l.foldl (fun x s => (x.1 || (needS nv (needL nv d) x.2 s).1, (needS nv (needL nv d) x.2 s).2)) (false, L)
end Go.Proofs.YtjjjidcbokbhpaaGreat.CtD

namespace Go.Proofs.YtjjjidcbokbhpaaGreat.CtD
open Go Go.CT CtF CtR

end Go.Proofs.YtjjjidcbokbhpaaGreat.CtD

namespace Go.Proofs.YtjjjidcbokbhpaaGreat.CtD
open Go Go.CT CtF CtR

theorem SmE_shape {p : Pg} : ∀ (d : Nat) (e : Ex), CtR.shape p d e = true → SmE e
  | 0, e, h => by simp [CtR.shape] at h
  | d + 1, .mk k v ks, h => by
    obtain ⟨g1, g2, g3⟩ := shape_succ h
    exact .mk k v ks (fits_len g1).1 fun x hx => SmE_shape d x (g2 x hx)
theorem SmE_of {p : Pg} {e : Ex} (h : CtR.shape p 5 e = true ∨ e = .mk 0 0 []) : SmE e := by
  rcases h with h | rfl
  · exact SmE_shape 5 e h
  · exact .mk 0 0 [] (by simp) (fun x h => by simp at h)
theorem cutL_nil (q : Nat → Bool) (nv d : Nat) : cutL q nv d [] = [] := by cases d <;> simp [cutL]
end Go.Proofs.YtjjjidcbokbhpaaGreat.CtD

namespace Go.Proofs.YtjjjidcbokbhpaaGreat.CtD
open Go Go.CT CtF CtR

/-! Plain: the reference's slice is the least closed set too. -/
def gL (L : List Bool) : Nat → Bool := fun i => L.getD i false
theorem gL_ext {L L' : List Bool} (h : L'.length = L.length) (h1 : leB (gL L) (gL L')) (h2 : leB (gL L') (gL L)) : L' = L := by
  apply List.ext_getElem h
  intro i a b
  have e1 := h1 i
  have e2 := h2 i
  simp only [gL, List.getD_eq_getElem?_getD, List.getElem?_eq_getElem a, List.getElem?_eq_getElem b, Option.getD_some] at e1 e2
  cases hx : L'[i] <;> cases hy : L[i] <;> simp_all
theorem gL_set {L : List Bool} {j : Nat} (h : j < L.length) (i : Nat) : gL (L.set j true) i = true ↔ gL L i = true ∨ (2 ^ j).testBit i = true := by
  simp only [gL, List.getD_eq_getElem?_getD, Nat.testBit_two_pow, decide_eq_true_eq]
  by_cases hij : j = i
  · subst hij; simp [List.getElem?_set_self h]
  · rw [List.getElem?_set_ne hij]; simp [hij]
theorem usesL_mem {p : Pg} (i : Nat) : ∀ (d : Nat) (e : Ex) (L : List Bool), CtR.shape p d e = true → L.length = p.vars.length + p.arrays.length →
    (gL (usesL p.vars.length d e L) i = true ↔ gL L i = true ∨ (occN p.vars.length d e).testBit i = true)
  | 0, e, L, h, _ => by simp [CtR.shape] at h
  | d + 1, .mk k v ks, L, h, hL => by
    obtain ⟨g1, g2, g3⟩ := shape_succ h
    obtain ⟨hl3, hla, hv0, hv1⟩ := fits_len g1
    have hlim : k = 2 → v < p.vars.length := fun hk => by subst hk; simpa [limit] using hv1
    have hlim3 : k = 3 → v < p.arrays.length := fun hk => by subst hk; simpa [limit] using hv1
    have gen : ∀ (ks : List Ex), (∀ x ∈ ks, CtR.shape p d x = true) → ∀ (M : List Bool) (a : Nat), M.length = L.length → (gL M i = true ↔ gL L i = true ∨ a.testBit i = true) →
        (gL (ks.foldl (fun L x => usesL p.vars.length d x L) M) i = true ↔ gL L i = true ∨ ((ks.map (occN p.vars.length d)).foldl (fun a b => a ||| b) a).testBit i = true) := fun ks => by
      induction ks with
      | nil => intro _ M a _ h; exact h
      | cons x r ih =>
        intro hs M a hM h
        rw [List.foldl_cons, List.map_cons, List.foldl_cons]
        refine ih (fun y hy => hs y (by simp [hy])) _ _ (by rw [usesL_len, hM]) ?_
        rw [usesL_mem i d x M (hs x (by simp)) (by omega), h, Nat.testBit_or, Bool.or_eq_true, or_assoc]
    simp only [usesL, occN]
    refine gen ks g2 _ _ (by split <;> (try split) <;> simp) ?_
    unfold occB
    by_cases h2 : k = 2
    · have := hlim h2
      simp only [h2, if_true]
      exact gL_set (by omega) i
    · by_cases h3 : k = 3
      · have := hlim3 h3
        simp only [h2, h3, if_true, if_false]
        first | exact gL_set (by omega) i | (simp only [Int.reduceEq, if_false]; exact gL_set (by omega) i)
      · simp [h2, h3]
theorem usesE_mem {p : Pg} (i : Nat) {e : Ex} (h : CtR.shape p 5 e = true ∨ e = .mk 0 0 []) (L : List Bool) (hL : L.length = p.vars.length + p.arrays.length) :
    (gL (usesL p.vars.length 5 e L) i = true ↔ gL L i = true ∨ (occN p.vars.length 5 e).testBit i = true) := by
  rcases h with h | rfl
  · exact usesL_mem i 5 e L h hL
  · simp [usesL, occN, occB]

structure NS (L L' : List Bool) (K : Bool) (A : (Nat → Bool) → Nat) (K' : (Nat → Bool) → Bool) : Prop where
  len : L'.length = L.length
  s1 : leB (gL L) (gL L')
  s2 : ∀ q', leB (gL L) q' → subB (A q') q' → leB (gL L') q' ∧ (K = true → K' q' = true)
  s3 : leB (gL L') (gL L) → subB (A (gL L)) (gL L) ∧ (K' (gL L) = true → K = true)
theorem NS.nil (L : List Bool) : NS L L false (fun _ => 0) (fun _ => false) :=
  ⟨rfl, fun i h => h, fun q' h _ => ⟨h, fun h => by cases h⟩, fun _ => ⟨subB_zero _, fun h => by cases h⟩⟩
theorem NS.seq {L L1 L2 : List Bool} {K1 K2 : Bool} {A1 A2 : (Nat → Bool) → Nat} {B1 B2 : (Nat → Bool) → Bool} (h1 : NS L L1 K1 A1 B1) (h2 : NS L1 L2 K2 A2 B2) :
    NS L L2 (K1 || K2) (fun q => A1 q ||| A2 q) (fun q => B1 q || B2 q) := by
  refine ⟨by rw [h2.len, h1.len], fun i h => h2.s1 i (h1.s1 i h), fun q' hl hs => ?_, fun hl => ?_⟩
  · obtain ⟨sa, sb⟩ := subB_or.1 hs
    have a := h1.s2 q' hl sa
    have b := h2.s2 q' a.1 sb
    refine ⟨b.1, fun h => ?_⟩
    rw [Bool.or_eq_true] at h ⊢
    exact h.imp a.2 b.2
  · have e1 : L1 = L := gL_ext h1.len h1.s1 (fun i h => hl i (h2.s1 i h))
    subst e1
    have a := h1.s3 (fun i h => h)
    have b := h2.s3 hl
    refine ⟨subB_or.2 ⟨a.1, b.1⟩, fun h => ?_⟩
    rw [Bool.or_eq_true] at h ⊢
    exact h.imp a.2 b.2
theorem NS.keep {L L1 U : List Bool} {K : Bool} {A : (Nat → Bool) → Nat} {B : (Nat → Bool) → Bool} (o : Nat) (h : NS L L1 K A B) (hl : U.length = L1.length) (hU : ∀ i, gL U i = true ↔ gL L1 i = true ∨ o.testBit i = true) :
    NS L (if K then U else L1) K (fun q => if B q then A q ||| o else A q) B := by
  cases hK : K with
  | false =>
    rw [hK] at h
    refine ⟨h.len, h.s1, fun q' hle hs => ?_, fun hle => ?_⟩
    · have : subB (A q') q' := by
        split at hs
        · exact (subB_or.1 hs).1
        · exact hs
      exact h.s2 q' hle this
    · have a := h.s3 hle
      have hb : B (gL L) = false := by
        cases hB : B (gL L) with
        | false => rfl
        | true => exact absurd (a.2 hB) (by simp)
      refine ⟨?_, a.2⟩
      simp only [hb, Bool.false_eq_true, if_false]
      exact a.1
  | true =>
    rw [hK] at h
    refine ⟨by rw [if_pos rfl, hl, h.len], fun i hi => ?_, fun q' hle hs => ?_, fun hle => ?_⟩
    · rw [if_pos rfl]; exact (hU i).2 (.inl (h.s1 i hi))
    · have a : subB (A q') q' := by
        split at hs
        · exact (subB_or.1 hs).1
        · exact hs
      have b := h.s2 q' hle a
      refine ⟨fun i hi => ?_, b.2⟩
      rw [if_pos rfl] at hi
      have hb := b.2 rfl
      simp only [hb, if_true] at hs
      rcases (hU i).1 hi with h1 | h1
      · exact b.1 i h1
      · exact (subB_or.1 hs).2 i h1
    · rw [if_pos rfl] at hle
      have a := h.s3 (fun i hi => hle i ((hU i).2 (.inl hi)))
      refine ⟨?_, a.2⟩
      have ho : subB o (gL L) := fun i hi => hle i ((hU i).2 (.inr hi))
      split
      · exact subB_or.2 ⟨a.1, ho⟩
      · exact a.1
theorem addS_or (q : Nat → Bool) (nv : Nat) (f : List St1 → List St1) (g : List St1 → Nat) (a : Nat) (s : St1) : addS q nv f g a s = a ||| addS q nv f g 0 s := by
  obtain ⟨k, t, ix, v, c, b, e⟩ := s
  simp only [addS]
  split <;> split <;> simp [Nat.or_assoc]
theorem NS.fold (nv : Nat) (f : List St1 → List Bool → Bool × List Bool) (g : (Nat → Bool) → List St1 → List St1) (w : (Nat → Bool) → List St1 → Nat) (L0 : List Bool) : ∀ (l : List St1) (x : Bool × List Bool) (A : (Nat → Bool) → Nat) (B : (Nat → Bool) → Bool),
    (∀ s ∈ l, ∀ L : List Bool, L.length = L0.length → NS L (needS nv f L s).2 (needS nv f L s).1 (fun q => addS q nv (g q) (w q) 0 s) (fun q => (cutS q nv (g q) s).isSome)) → NS L0 x.2 x.1 A B →
    NS L0 (l.foldl (fun x s => (x.1 || (needS nv f x.2 s).1, (needS nv f x.2 s).2)) x).2 (l.foldl (fun x s => (x.1 || (needS nv f x.2 s).1, (needS nv f x.2 s).2)) x).1 (fun q => l.foldl (addS q nv (g q) (w q)) (A q)) (fun q => B q || l.any fun s => (cutS q nv (g q) s).isSome)
  | [], x, A, B, _, h => by simpa using h
  | s :: r, x, A, B, hs, h => by
    have h1 := h.seq (hs s (by simp) x.2 h.len)
    have h2 := NS.fold nv f g w L0 r (x.1 || (needS nv f x.2 s).1, (needS nv f x.2 s).2) _ _ (fun y hy => hs y (by simp [hy])) h1
    simp only [List.foldl_cons, List.any_cons]
    have e1 : (fun q => List.foldl (addS q nv (g q) (w q)) (addS q nv (g q) (w q) (A q) s) r) = (fun q => List.foldl (addS q nv (g q) (w q)) (A q ||| addS q nv (g q) (w q) 0 s) r) := funext fun q => by rw [addS_or]
    rw [e1]
    simp only [Bool.or_assoc] at h2 ⊢
    exact h2
theorem any_pos (f : St1 → Option St1) (l : List St1) : (l.any fun s => (f s).isSome) = decide (0 < (l.filterMap f).length) := by
  induction l with
  | nil => rfl
  | cons a r ih =>
    rw [List.any_cons, List.filterMap_cons, ih]
    cases h : f a <;> simp
theorem NS.need {p : Pg} : ∀ (d : Nat) (l : List St1) (L : List Bool), (∀ s ∈ l, stmtOK p d s = true) → L.length = p.vars.length + p.arrays.length →
    NS L (needL p.vars.length d l L).2 (needL p.vars.length d l L).1 (fun q => setN q p.vars.length d l) (fun q => decide (0 < (cutL q p.vars.length d l).length))
  | 0, l, L, h, _ => by
    have := NS.nil L
    simpa [needL, setN, cutL] using this
  | d + 1, l, L, h, hL => by
    have hone : ∀ s ∈ l, ∀ M : List Bool, M.length = L.length → NS M (needS p.vars.length (needL p.vars.length d) M s).2 (needS p.vars.length (needL p.vars.length d) M s).1 (fun q => addS q p.vars.length (cutL q p.vars.length d) (setN q p.vars.length d) 0 s) (fun q => (cutS q p.vars.length (cutL q p.vars.length d) s).isSome) := fun s hs M hM => by
      have hok := h s hs
      obtain ⟨k, t, ix, v, c, b, e⟩ := s
      have hbe := stmtOK_succ hok
      have hex := exprs_of hok
      have hb := NS.need d b M hbe.2.1 (by omega)
      have he := NS.need d e (needL p.vars.length d b M).2 hbe.2.2 (by rw [hb.len]; omega)
      have hU : ∀ M1 : List Bool, M1.length = L.length → ∀ i, gL (usesL p.vars.length 5 ix (usesL p.vars.length 5 v M1)) i = true ↔ gL M1 i = true ∨ (occN p.vars.length 5 v ||| occN p.vars.length 5 ix).testBit i = true := fun M1 hM1 i => by
        rw [usesE_mem i hex.1 _ (by rw [usesL_len]; omega), usesE_mem i hex.2 _ (by omega), Nat.testBit_or, Bool.or_eq_true, or_assoc]
      have hlen : ∀ M1 : List Bool, (usesL p.vars.length 5 ix (usesL p.vars.length 5 v M1)).length = M1.length := fun M1 => by rw [usesL_len, usesL_len]
      have h0 : ∀ q : Nat → Bool, 0 ||| (occN p.vars.length 5 v ||| occN p.vars.length 5 ix) = (occN p.vars.length 5 v ||| occN p.vars.length 5 ix) := fun q => Nat.zero_or _
      by_cases h5 : k = 5
      · have base : NS M M true (fun _ => 0) (fun _ => true) := ⟨rfl, fun i h => h, fun q' h _ => ⟨h, fun _ => rfl⟩, fun _ => ⟨subB_zero _, fun _ => rfl⟩⟩
        have := base.keep (U := usesL p.vars.length 5 ix (usesL p.vars.length 5 v M)) _ (hlen M) (hU M hM)
        simpa [needS, addS, cutS, h5] using this
      · by_cases h1 : k = 1
        · have base : NS M M (gL M t.toNat) (fun _ => 0) (fun q => q t.toNat) := ⟨rfl, fun i h => h, fun q' h _ => ⟨h, fun h1 => h _ h1⟩, fun _ => ⟨subB_zero _, fun h => h⟩⟩
          have := base.keep (U := usesL p.vars.length 5 ix (usesL p.vars.length 5 v M)) _ (hlen M) (hU M hM)
          have ek : ∀ q : Nat → Bool, (cutS q p.vars.length (cutL q p.vars.length d) (.mk k t ix v c b e)).isSome = q t.toNat := fun q => by simp only [cutS, h5, h1, if_false, if_true]; cases q t.toNat <;> simp
          simp only [addS, ek]
          simpa [needS, gL, h5, h1] using this
        · by_cases h2 : k = 2
          · have base : NS M M (gL M (p.vars.length + t.toNat)) (fun _ => 0) (fun q => q (p.vars.length + t.toNat)) := ⟨rfl, fun i h => h, fun q' h _ => ⟨h, fun h1 => h _ h1⟩, fun _ => ⟨subB_zero _, fun h => h⟩⟩
            have := base.keep (U := usesL p.vars.length 5 ix (usesL p.vars.length 5 v M)) _ (hlen M) (hU M hM)
            have ek : ∀ q : Nat → Bool, (cutS q p.vars.length (cutL q p.vars.length d) (.mk k t ix v c b e)).isSome = q (p.vars.length + t.toNat) := fun q => by simp only [cutS, h5, h1, h2, if_false, if_true]; cases q (p.vars.length + t.toNat) <;> simp
            simp only [addS, ek]
            simpa [needS, gL, h5, h1, h2] using this
          · have base := hb.seq he
            have hl2 : (needL p.vars.length d e (needL p.vars.length d b M).2).2.length = L.length := by rw [he.len, hb.len, hM]
            have := base.keep (U := usesL p.vars.length 5 ix (usesL p.vars.length 5 v (needL p.vars.length d e (needL p.vars.length d b M).2).2)) _ (hlen _) (hU _ hl2)
            have ek : ∀ q : Nat → Bool, (cutS q p.vars.length (cutL q p.vars.length d) (.mk k t ix v c b e)).isSome = (decide (0 < (cutL q p.vars.length d b).length) || decide (0 < (cutL q p.vars.length d e).length)) := fun q => by
              simp only [cutS, h5, h1, h2, if_false]
              by_cases hpos : 0 < (cutL q p.vars.length d b).length + (cutL q p.vars.length d e).length
              · rw [if_pos hpos]
                rcases Nat.lt_or_ge 0 (cutL q p.vars.length d b).length with h | h
                · simp [h]
                · have : 0 < (cutL q p.vars.length d e).length := by omega
                  simp [this]
              · rw [if_neg hpos]
                have h1 : ¬ 0 < (cutL q p.vars.length d b).length := by omega
                have h2 : ¬ 0 < (cutL q p.vars.length d e).length := by omega
                simp only [h1, h2]; rfl
            simp only [addS, ek]
            have hc : ¬ (k = 5 ∨ k = 1 ∨ k = 2) := by omega
            simp only [needS, h5, h1, h2, if_false, or_self, Nat.zero_or]
            exact this
    have := NS.fold p.vars.length (needL p.vars.length d) (fun q => cutL q p.vars.length d) (fun q => setN q p.vars.length d) L l (false, L) _ _ hone (NS.nil L)
    simp only [any_pos, Bool.false_or] at this
    exact this

/-- The reference's loop: an invariant, and what holds where it ends. -/
structure Under (p : Pg) (ws L : List Bool) : Prop where
  len : L.length = p.vars.length + p.arrays.length
  want : leB (gL ws) (gL L)
  least : ∀ q' : Nat → Bool, (∀ i, ws.getD i false = true → q' i = true) → subB (setN q' p.vars.length 5 p.body) q' → leB (gL L) q'
theorem Under.next {p : Pg} {ws L : List Bool} (hb : ∀ s ∈ p.body, stmtOK p 5 s = true) (h : Under p ws L) : Under p ws (needL p.vars.length 5 p.body L).2 := by
  have n := NS.need 5 p.body L hb h.len
  exact ⟨by rw [n.len, h.len], fun i hi => n.s1 i (h.want i hi), fun q' h1 h2 => (n.s2 q' (h.least q' h1 h2) h2).1⟩
end Go.Proofs.YtjjjidcbokbhpaaGreat.CtD

namespace Go.Proofs.YtjjjidcbokbhpaaGreat.CtD
open Go Go.CT CtF CtR

theorem eqFE (ks : List Ex) (hl : ks.length ≤ 1000) (h : ∀ e ∈ ks, DC Tryz.prog 124 [.agg e.cells, .agg e.cells] [] (fun r h => r = DB true ∧ h = [])) :
    DC Tryz.prog 183 [.c (.isl 3 (Ex.cellsL ks)), .c (.isl 3 (Ex.cellsL ks)), .c (.clo 124 [])] [] (fun r h => r = DB true ∧ h = []) := by
  have hmx := mx_eq
  generalize hR : (fun (r : D) (h : List (Option (List C))) => r = DB true ∧ h = []) = R at h ⊢
  have hb : ((ks.length : Int) != ks.length) = false := by simp
  have he : ((ks.length : Int) = ks.length) = True := eq_true rfl
  refine dcZ Tryz.func183 ?_
  simp (maxSteps := 9999999) only [go_sem, hb, he]
  iterate 2 ((try (refine drvZ Tryz.func183 ?_; simp (maxSteps := 9999999) only [go_sem, hb, he])); (try ((with_reducible refine And.intro ?_ ?_) <;> (repeat' with_reducible apply And.intro) <;> try exact sd)))
  refine Go.loopQ (fun i : Nat => [(1, .c (.isl 3 (Ex.cellsL ks))), (2, .c (.clo 124 [])), (15, .c (.isl 3 (Ex.cellsL ks))), (16, DI .i64 ks.length), (17, DI .i64 i)]) (fun _ => [])
    4096 (fun i => i ≤ ks.length) (fun i => ks.length - i) ?_ 0 some [] _ (Nat.zero_le _) ?_
  · intro i hi again
    rcases Nat.lt_or_ge i ks.length with hlt | hge
    · obtain ⟨⟨k', v', ks'⟩, hx⟩ : ∃ x, ks[i]? = some x := ⟨ks[i], by simp [hlt]⟩
      have hc := h _ (List.mem_of_getElem? hx)
      rw [← hR] at hc
      refine drvL Tryz.func183 ?_
      simp (maxSteps := 9999999) only [go_sem, hx, hlt]
      iterate 3 ((try (refine drvZ Tryz.func183 ?_; simp (maxSteps := 9999999) only [go_sem, hx, hlt])); (try ((with_reducible refine And.intro ?_ ?_) <;> (repeat' with_reducible apply And.intro) <;> try exact sd)))
      refine XK.plain hc ok124 ?_ (hbT ())
      iterate 3 ((try (refine drvZ Tryz.func183 ?_; simp (maxSteps := 9999999) only [go_sem, hx, hlt])); (try ((with_reducible refine And.intro ?_ ?_) <;> (repeat' with_reducible apply And.intro) <;> try exact sd)))
      refine again (i + 1) some [] _ hlt (by omega) ?_
      simp (maxSteps := 9999999) only [go_sem, TmOK, DM, DMs, CM, CMs, forall_eq, exists_eq_left, Mq, HpOK, LowOK]
      try simp
    · have hn : ¬ i < ks.length := by omega
      refine drvL Tryz.func183 ?_
      simp (maxSteps := 9999999) only [go_sem, hn]
      iterate 2 ((try (refine drvZ Tryz.func183 ?_; simp (maxSteps := 9999999) only [go_sem, hn])); (try ((with_reducible refine And.intro ?_ ?_) <;> (repeat' with_reducible apply And.intro) <;> try exact sd)))
      exact RetOb.plain (d := DB true) (by rw [← hR]; exact ⟨rfl, rfl⟩) rfl
  · simp (maxSteps := 9999999) only [go_sem, TmOK, DM, DMs, CM, CMs, forall_eq, exists_eq_left, Mq, HpOK, LowOK]
    try simp

theorem exprSame (e : Ex) (he : SmE e) : DC Tryz.prog 124 [.agg e.cells, .agg e.cells] [] (fun r h => r = DB true ∧ h = []) := by
  have hmx := mx_eq
  induction he with
  | mk k v ks h3 hs ih =>
    have hq := eqFE ks (by omega) ih
    have e1 : (k == k) = true := by simp
    have e2 : (v == v) = true := by simp
    refine dcZ Tryz.func124 ?_
    simp (maxSteps := 9999999) only [go_sem, e1, e2]
    iterate 2 ((try (refine drvZ Tryz.func124 ?_; simp (maxSteps := 9999999) only [go_sem, e1, e2])); (try ((with_reducible refine And.intro ?_ ?_) <;> (repeat' with_reducible apply And.intro) <;> try exact sd)))
    refine XK.gplain 12 true true (fun _ => hq) ok183 ?_ (hbT ())
    iterate 2 ((try (refine drvZ Tryz.func124 ?_; simp (maxSteps := 9999999) only [go_sem])); (try ((with_reducible refine And.intro ?_ ?_) <;> (repeat' with_reducible apply And.intro) <;> try exact sd)))
    exact RetOb.plain (d := DB true) ⟨rfl, rfl⟩ rfl

theorem eqFS (l : List St1) (hl : l.length ≤ 1000) (h : ∀ s ∈ l, DC Tryz.prog 123 [.agg s.cells, .agg s.cells] [] (fun r h => r = DB true ∧ h = [])) :
    DC Tryz.prog 122 [.c (.isl 11 (St1.cellsL l)), .c (.isl 11 (St1.cellsL l)), .c (.clo 123 [])] [] (fun r h => r = DB true ∧ h = []) := by
  have hmx := mx_eq
  generalize hR : (fun (r : D) (h : List (Option (List C))) => r = DB true ∧ h = []) = R at h ⊢
  have hb : ((l.length : Int) != l.length) = false := by simp
  have he : ((l.length : Int) = l.length) = True := eq_true rfl
  refine dcZ Tryz.func122 ?_
  simp (maxSteps := 9999999) only [go_sem, hb, he]
  iterate 2 ((try (refine drvZ Tryz.func122 ?_; simp (maxSteps := 9999999) only [go_sem, hb, he])); (try ((with_reducible refine And.intro ?_ ?_) <;> (repeat' with_reducible apply And.intro) <;> try exact sd)))
  refine Go.loopQ (fun i : Nat => [(1, .c (.isl 11 (St1.cellsL l))), (2, .c (.clo 123 [])), (15, .c (.isl 11 (St1.cellsL l))), (16, DI .i64 l.length), (17, DI .i64 i)]) (fun _ => [])
    4096 (fun i => i ≤ l.length) (fun i => l.length - i) ?_ 0 some [] _ (Nat.zero_le _) ?_
  · intro i hi again
    rcases Nat.lt_or_ge i l.length with hlt | hge
    · obtain ⟨⟨k, t, ⟨ik, iv, iks⟩, ⟨vk, vv, vks⟩, c, b, e⟩, hx⟩ : ∃ x, l[i]? = some x := ⟨l[i], by simp [hlt]⟩
      have hc := h _ (List.mem_of_getElem? hx)
      rw [← hR] at hc
      refine drvL Tryz.func122 ?_
      simp (maxSteps := 9999999) only [go_sem, hx, hlt]
      iterate 3 ((try (refine drvZ Tryz.func122 ?_; simp (maxSteps := 9999999) only [go_sem, hx, hlt])); (try ((with_reducible refine And.intro ?_ ?_) <;> (repeat' with_reducible apply And.intro) <;> try exact sd)))
      refine XK.plain hc ok123 ?_ (hbT ())
      iterate 3 ((try (refine drvZ Tryz.func122 ?_; simp (maxSteps := 9999999) only [go_sem, hx, hlt])); (try ((with_reducible refine And.intro ?_ ?_) <;> (repeat' with_reducible apply And.intro) <;> try exact sd)))
      refine again (i + 1) some [] _ hlt (by omega) ?_
      simp (maxSteps := 9999999) only [go_sem, TmOK, DM, DMs, CM, CMs, forall_eq, exists_eq_left, Mq, HpOK, LowOK, List.cons_append, List.nil_append]
      try simp
    · have hn : ¬ i < l.length := by omega
      refine drvL Tryz.func122 ?_
      simp (maxSteps := 9999999) only [go_sem, hn]
      iterate 2 ((try (refine drvZ Tryz.func122 ?_; simp (maxSteps := 9999999) only [go_sem, hn])); (try ((with_reducible refine And.intro ?_ ?_) <;> (repeat' with_reducible apply And.intro) <;> try exact sd)))
      exact RetOb.plain (d := DB true) (by rw [← hR]; exact ⟨rfl, rfl⟩) rfl
  · simp (maxSteps := 9999999) only [go_sem, TmOK, DM, DMs, CM, CMs, forall_eq, exists_eq_left, Mq, HpOK, LowOK]
    try simp

theorem sameStmts (l : List St1) (hl : l.length ≤ 1000) (h : ∀ s ∈ l, DC Tryz.prog 123 [.agg s.cells, .agg s.cells] [] (fun r h => r = DB true ∧ h = [])) :
    DC Tryz.prog 56 [.c (.isl 11 (St1.cellsL l)), .c (.isl 11 (St1.cellsL l))] [] (fun r h => r = DB true ∧ h = []) := by
  refine dcZ Tryz.func56 ?_
  simp (maxSteps := 9999999) only [go_sem]
  ((try (refine drvZ Tryz.func56 ?_; simp (maxSteps := 9999999) only [go_sem])); (try ((with_reducible refine And.intro ?_ ?_) <;> (repeat' with_reducible apply And.intro) <;> try exact sd)))
  refine XK.plain (eqFS l hl h) ok122 ?_ (hbT ())
  ((try (refine drvZ Tryz.func56 ?_; simp (maxSteps := 9999999) only [go_sem])); (try ((with_reducible refine And.intro ?_ ?_) <;> (repeat' with_reducible apply And.intro) <;> try exact sd)))
  exact RetOb.plain (d := DB true) ⟨rfl, rfl⟩ rfl

theorem sameStmt (p : Pg) : ∀ (d : Nat) (s : St1), stmtOK p d s = true → tsize d s ≤ 1000 → DC Tryz.prog 123 [.agg s.cells, .agg s.cells] [] (fun r h => r = DB true ∧ h = [])
  | 0, s, h, _ => by simp [stmtOK] at h
  | d + 1, ⟨k, t, ⟨ik, iv, iks⟩, ⟨vk, vv, vks⟩, c, b, e⟩, h, hsz => by
    have hmx := mx_eq
    have hex := exprs_of h
    have hbe := stmtOK_succ h
    have hs1 := lsize_subs d b
    have hs2 := lsize_subs d e
    have hz : tsize (d + 1) (.mk k t (.mk ik iv iks) (.mk vk vv vks) c b e) = 1 + (b.map (tsize d)).sum + (e.map (tsize d)).sum := rfl
    have hlen : ∀ l : List St1, (∀ s ∈ l, stmtOK p d s = true) → l.length ≤ (l.map (tsize d)).sum := fun l hl => by
      induction l with
      | nil => simp
      | cons a r ih =>
        have := ih (fun s hs => hl s (by simp [hs]))
        have h1 : 1 ≤ tsize d a := by
          cases d with
          | zero => have := hl a (by simp); simp [stmtOK] at this
          | succ d => obtain ⟨k, t, ix, v, c, b, e⟩ := a; simp only [tsize]; omega
        simp only [List.length_cons, List.map_cons, List.sum_cons]; omega
    have hmem : ∀ (l : List St1), (∀ s ∈ l, tsize d s ≤ (l.map (tsize d)).sum) := fun l => by
      induction l with
      | nil => simp
      | cons a r ih =>
        intro s hs
        simp only [List.map_cons, List.sum_cons]
        rcases List.mem_cons.1 hs with rfl | hs
        · omega
        · have := ih s hs; omega
    have hb := sameStmts b (by have := hlen b hbe.2.1; omega) (fun s hs => sameStmt p d s (hbe.2.1 s hs) (by have := hmem b s hs; omega))
    have he := sameStmts e (by have := hlen e hbe.2.2; omega) (fun s hs => sameStmt p d s (hbe.2.2 s hs) (by have := hmem e s hs; omega))
    have x1 := exprSame _ (SmE_of hex.1)
    have x2 := exprSame _ (SmE_of hex.2)
    have e1 : (k == k) = true := by simp
    have e2 : (t == t) = true := by simp
    have e3 : (c == c) = true := by simp
    refine dcZ Tryz.func123 ?_
    simp (maxSteps := 9999999) only [go_sem, e1, e2, e3]
    iterate 2 ((try (refine drvZ Tryz.func123 ?_; simp (maxSteps := 9999999) only [go_sem, e1, e2, e3])); (try ((with_reducible refine And.intro ?_ ?_) <;> (repeat' with_reducible apply And.intro) <;> try exact sd)))
    refine XK.gplain 12 true true (fun _ => x1) ok124 ?_ (hbT ())
    iterate 2 ((try (refine drvZ Tryz.func123 ?_; simp (maxSteps := 9999999) only [go_sem, e1, e2, e3])); (try ((with_reducible refine And.intro ?_ ?_) <;> (repeat' with_reducible apply And.intro) <;> try exact sd)))
    refine XK.gplain 19 true true (fun _ => x2) ok124 ?_ (hbT ())
    iterate 3 ((try (refine drvZ Tryz.func123 ?_; simp (maxSteps := 9999999) only [go_sem, e1, e2, e3])); (try ((with_reducible refine And.intro ?_ ?_) <;> (repeat' with_reducible apply And.intro) <;> try exact sd)))
    refine XK.gplain 33 true true (fun _ => hb) ok56 ?_ (hbT ())
    iterate 2 ((try (refine drvZ Tryz.func123 ?_; simp (maxSteps := 9999999) only [go_sem, e1, e2, e3])); (try ((with_reducible refine And.intro ?_ ?_) <;> (repeat' with_reducible apply And.intro) <;> try exact sd)))
    refine XK.gplain 40 true true (fun _ => he) ok56 ?_ (hbT ())
    iterate 2 ((try (refine drvZ Tryz.func123 ?_; simp (maxSteps := 9999999) only [go_sem, e1, e2, e3])); (try ((with_reducible refine And.intro ?_ ?_) <;> (repeat' with_reducible apply And.intro) <;> try exact sd)))
    exact RetOb.plain (d := DB true) ⟨rfl, rfl⟩ rfl

theorem programSame (p : Pg) (hl : p.vars.length ≤ mx) (hl2 : p.arrays.length ≤ mx) (hb : p.body.length ≤ 1000) (h : ∀ s ∈ p.body, DC Tryz.prog 123 [.agg s.cells, .agg s.cells] [] (fun r h => r = DB true ∧ h = [])) :
    DC Tryz.prog 14 [.agg p.cells, .agg p.cells] [] (fun r h => r = DB true ∧ h = []) := by
  have hmx := mx_eq
  have h1 := equalI p.vars p.vars hl
  have h2 := equalI p.arrays p.arrays hl2
  rw [show decide (p.vars = p.vars) = true by simp] at h1
  rw [show decide (p.arrays = p.arrays) = true by simp] at h2
  have h3 := sameStmts p.body hb h
  obtain ⟨vs, ar, bd⟩ := p
  refine dcZ Tryz.func14 ?_
  simp (maxSteps := 9999999) only [go_sem]
  ((try (refine drvZ Tryz.func14 ?_; simp (maxSteps := 9999999) only [go_sem])); (try ((with_reducible refine And.intro ?_ ?_) <;> (repeat' with_reducible apply And.intro) <;> try exact sd)))
  refine XK.plain h1 ok55 ?_ (hbT ())
  iterate 2 ((try (refine drvZ Tryz.func14 ?_; simp (maxSteps := 9999999) only [go_sem])); (try ((with_reducible refine And.intro ?_ ?_) <;> (repeat' with_reducible apply And.intro) <;> try exact sd)))
  refine XK.gplain 5 true true (fun _ => h2) ok55 ?_ (hbT ())
  iterate 2 ((try (refine drvZ Tryz.func14 ?_; simp (maxSteps := 9999999) only [go_sem])); (try ((with_reducible refine And.intro ?_ ?_) <;> (repeat' with_reducible apply And.intro) <;> try exact sd)))
  refine XK.gplain 12 true true (fun _ => h3) ok56 ?_ (hbT ())
  iterate 2 ((try (refine drvZ Tryz.func14 ?_; simp (maxSteps := 9999999) only [go_sem])); (try ((with_reducible refine And.intro ?_ ?_) <;> (repeat' with_reducible apply And.intro) <;> try exact sd)))
  exact RetOb.plain (d := DB true) ⟨rfl, rfl⟩ rfl
end Go.Proofs.YtjjjidcbokbhpaaGreat.CtD

namespace Go.Proofs.YtjjjidcbokbhpaaGreat.CtR
end Go.Proofs.YtjjjidcbokbhpaaGreat.CtR
namespace Go.Proofs.YtjjjidcbokbhpaaGreat.CtD
open Go Go.CT CtF CtR

theorem sameBody {p : Pg} (h : progOK p = true) : ∀ s ∈ p.body, DC Tryz.prog 123 [.agg s.cells, .agg s.cells] [] (fun r h => r = DB true ∧ h = []) := fun s hs => by
  have hb := body_of h
  refine sameStmt p 5 s (hb.1 s hs) ?_
  have : ∀ l : List St1, s ∈ l → tsize 5 s ≤ (l.map (tsize 5)).sum := fun l => by
    induction l with
    | nil => simp
    | cons a r ih =>
      intro hs
      simp only [List.map_cons, List.sum_cons]
      rcases List.mem_cons.1 hs with rfl | hs
      · omega
      · have := ih hs; omega
  have h1 := this p.body hs
  have h2 : (p.body.map (tsize 5)).sum = lsize 5 p.body := rfl
  omega

end Go.Proofs.YtjjjidcbokbhpaaGreat.CtD

namespace Go.Proofs.YtjjjidcbokbhpaaGreat.CtD
open Go Go.CT CtF CtR

/-! Plain: a slice answers as the program does. -/
structure AgM (q : Nat → Bool) (nv : Nat) (m m' : Mm) : Prop where
  lv : m.vals.length = m'.vals.length
  la : m.arrays.length = m'.arrays.length
  val : ∀ i, i < nv → q i = true → m.vals[i]? = m'.vals[i]?
  arr : ∀ j, q (nv + j) = true → m.arrays[j]? = m'.arrays[j]?
theorem AgM.refl (q : Nat → Bool) (nv : Nat) (m : Mm) : AgM q nv m m := ⟨rfl, rfl, fun _ _ _ => rfl, fun _ _ => rfl⟩
theorem AgM.setV {q : Nat → Bool} {nv : Nat} {m m' : Mm} (h : AgM q nv m m') (t x : Int) : AgM q nv (setV m t x) (setV m' t x) := by
  refine ⟨by simp [CtR.setV, h.lv], h.la, fun i hi hq => ?_, h.arr⟩
  have := h.val i hi hq
  have := h.lv
  simp only [CtR.setV, List.getElem?_set]
  split <;> simp_all
theorem AgM.setA {q : Nat → Bool} {nv : Nat} {m m' : Mm} (h : AgM q nv m m') {t : Int} (i x : Int) (ht : q (nv + t.toNat) = true) : AgM q nv (CtR.setA m t i x) (CtR.setA m' t i x) := by
  have ha : arrAt m t = arrAt m' t := by unfold arrAt; rw [List.getD_eq_getElem?_getD, List.getD_eq_getElem?_getD, h.arr _ ht]
  refine ⟨h.lv, by simp [CtR.setA, h.la], h.val, fun j hq => ?_⟩
  have h1 := h.arr j hq
  have h2 := h.la
  simp only [CtR.setA, List.getElem?_set, ha]
  split <;> simp_all
/-- The releases of a trace. -/
def rel (l : List Ev) : List Ev := l.filter fun e => e.kind == 4
theorem rel_app (a b : List Ev) : rel (a ++ b) = rel a ++ rel b := by simp [rel]
theorem len0 {l : List St1} (h : ¬ 0 < l.length) : l = [] := List.eq_nil_of_length_eq_zero (by omega)
/-- With fewer cells, a slice of a slice is the slice. -/
theorem cut_cut {p : Pg} {q q' : Nat → Bool} (hle : leB q' q) : ∀ (d : Nat) (l : List St1), (∀ s ∈ l, stmtOK p d s = true) →
    cutL q' p.vars.length d (cutL q p.vars.length d l) = cutL q' p.vars.length d l ∧ setN q' p.vars.length d (cutL q p.vars.length d l) = setN q' p.vars.length d l
  | 0, l, _ => ⟨rfl, rfl⟩
  | d + 1, l, hok => by
    have hone : ∀ s, stmtOK p (d + 1) s = true → (match cutS q p.vars.length (cutL q p.vars.length d) s with
        | none => cutS q' p.vars.length (cutL q' p.vars.length d) s = none ∧ addS q' p.vars.length (cutL q' p.vars.length d) (setN q' p.vars.length d) 0 s = 0
        | some s' => cutS q' p.vars.length (cutL q' p.vars.length d) s' = cutS q' p.vars.length (cutL q' p.vars.length d) s ∧ addS q' p.vars.length (cutL q' p.vars.length d) (setN q' p.vars.length d) 0 s' = addS q' p.vars.length (cutL q' p.vars.length d) (setN q' p.vars.length d) 0 s) := fun s hs => by
      obtain ⟨k, t, ix, v, c, b, e⟩ := s
      have hbe := stmtOK_succ hs
      by_cases h5 : k = 5
      · have ec : cutS q p.vars.length (cutL q p.vars.length d) (.mk k t ix v c b e) = some (.mk k t ix v c b e) := by simp [cutS, h5]
        rw [ec]; exact ⟨rfl, rfl⟩
      by_cases h1 : k = 1
      · cases hqt : q t.toNat with
        | true =>
          have ec : cutS q p.vars.length (cutL q p.vars.length d) (.mk k t ix v c b e) = some (.mk k t ix v c b e) := by simp [cutS, h1, hqt]
          rw [ec]; exact ⟨rfl, rfl⟩
        | false =>
          have hq2 : q' t.toNat = false := by
            cases hx : q' t.toNat with
            | false => rfl
            | true => rw [hle _ hx] at hqt; cases hqt
          have ec : cutS q p.vars.length (cutL q p.vars.length d) (.mk k t ix v c b e) = none := by simp [cutS, h1, hqt]
          have ec2 : cutS q' p.vars.length (cutL q' p.vars.length d) (.mk k t ix v c b e) = none := by simp [cutS, h1, hq2]
          rw [ec]
          refine ⟨ec2, ?_⟩
          simp only [addS]
          rw [ec2]
          simp [h1]
      by_cases h2 : k = 2
      · cases hqt : q (p.vars.length + t.toNat) with
        | true =>
          have ec : cutS q p.vars.length (cutL q p.vars.length d) (.mk k t ix v c b e) = some (.mk k t ix v c b e) := by simp [cutS, h2, hqt]
          rw [ec]; exact ⟨rfl, rfl⟩
        | false =>
          have hq2 : q' (p.vars.length + t.toNat) = false := by
            cases hx : q' (p.vars.length + t.toNat) with
            | false => rfl
            | true => rw [hle _ hx] at hqt; cases hqt
          have ec : cutS q p.vars.length (cutL q p.vars.length d) (.mk k t ix v c b e) = none := by simp [cutS, h2, hqt]
          have ec2 : cutS q' p.vars.length (cutL q' p.vars.length d) (.mk k t ix v c b e) = none := by simp [cutS, h2, hq2]
          rw [ec]
          refine ⟨ec2, ?_⟩
          simp only [addS]
          rw [ec2]
          simp [h2]
      have ib := cut_cut hle d b hbe.2.1
      have ie := cut_cut hle d e hbe.2.2
      have ecs : ∀ q (b e : List St1), cutS q p.vars.length (cutL q p.vars.length d) (.mk k t ix v c b e) = if 0 < (cutL q p.vars.length d b).length + (cutL q p.vars.length d e).length then some (.mk k t ix v c (cutL q p.vars.length d b) (cutL q p.vars.length d e)) else none := fun q b e => by simp [cutS, h5, h1, h2]
      have eas : ∀ (b e : List St1), addS q' p.vars.length (cutL q' p.vars.length d) (setN q' p.vars.length d) 0 (.mk k t ix v c b e) = if 0 < (cutL q' p.vars.length d b).length + (cutL q' p.vars.length d e).length then (setN q' p.vars.length d b ||| setN q' p.vars.length d e) ||| (occN p.vars.length 5 v ||| occN p.vars.length 5 ix) else setN q' p.vars.length d b ||| setN q' p.vars.length d e := fun b e => by
        simp only [addS, ecs, show ¬ (k = 5 ∨ k = 1 ∨ k = 2) by omega, if_false, Nat.zero_or]
        split <;> simp
      rw [ecs q b e]
      by_cases hp : 0 < (cutL q p.vars.length d b).length + (cutL q p.vars.length d e).length
      · rw [if_pos hp]
        simp only [ecs, eas, ib.1, ib.2, ie.1, ie.2, and_self]
      · rw [if_neg hp]
        have hb0 := len0 (show ¬ 0 < (cutL q p.vars.length d b).length by omega)
        have he0 := len0 (show ¬ 0 < (cutL q p.vars.length d e).length by omega)
        rw [hb0] at ib
        rw [he0] at ie
        have z1 : setN q' p.vars.length d [] = 0 := by cases d <;> simp [setN]
        simp only [ecs, eas, ← ib.1, ← ib.2, ← ie.1, ← ie.2, cutL_nil, z1]
        simp
    have gen : ∀ (l : List St1), (∀ s ∈ l, stmtOK p (d + 1) s = true) → ∀ a, (l.filterMap (cutS q p.vars.length (cutL q p.vars.length d))).filterMap (cutS q' p.vars.length (cutL q' p.vars.length d)) = l.filterMap (cutS q' p.vars.length (cutL q' p.vars.length d)) ∧
        (l.filterMap (cutS q p.vars.length (cutL q p.vars.length d))).foldl (addS q' p.vars.length (cutL q' p.vars.length d) (setN q' p.vars.length d)) a = l.foldl (addS q' p.vars.length (cutL q' p.vars.length d) (setN q' p.vars.length d)) a := fun l => by
      induction l with
      | nil => intro _ a; exact ⟨rfl, rfl⟩
      | cons s r ih =>
        intro hok a
        have h1 := hone s (hok s (by simp))
        have ih := ih fun x hx => hok x (by simp [hx])
        rw [List.filterMap_cons]
        cases hc : cutS q p.vars.length (cutL q p.vars.length d) s with
        | none =>
          rw [hc] at h1
          simp only at h1
          simp only [List.filterMap_cons, List.foldl_cons, h1.1]
          rw [addS_or, h1.2, Nat.or_zero]
          exact ih a
        | some s' =>
          rw [hc] at h1
          simp only at h1
          simp only [List.filterMap_cons, List.foldl_cons, h1.1]
          rw [addS_or _ _ _ _ a s', addS_or _ _ _ _ a s, h1.2]
          refine ⟨?_, (ih _).2⟩
          rw [(ih 0).1]
    simp only [cutL, setN]
    exact gen l hok 0
/-- The least closed set of a program is the least closed set of its slice. -/
theorem Least.slice {p : Pg} {ws : List Bool} {q : Nat → Bool} (hok : ∀ s ∈ p.body, stmtOK p 5 s = true) (h : Least p ws q) : Least (slP p q) ws q := by
  refine ⟨h.want, ?_, fun q' h1 h2 i hi => ?_⟩
  · have := (cut_cut (q := q) (q' := q) (fun i h => h) 5 p.body hok).2
    simp only [slP]
    rw [this]
    exact h.closed
  · have hle : leB (fun i => q' i && q i) q := fun i h => by simp only [Bool.and_eq_true] at h; exact h.2
    have hle' : leB (fun i => q' i && q i) q' := fun i h => by simp only [Bool.and_eq_true] at h; exact h.1
    have e := (cut_cut hle 5 p.body hok).2
    simp only [slP] at h2
    have m1 := (cut_mono p.vars.length hle' 5 (cutL q p.vars.length 5 p.body)).2 q' h2
    rw [e] at m1
    have m2 := (cut_mono p.vars.length hle 5 p.body).2 q h.closed
    have := h.least (fun i => q' i && q i) (fun i hw => by simp only [Bool.and_eq_true]; exact ⟨h1 i hw, h.want i hw⟩) (fun i hb => by simp only [Bool.and_eq_true]; exact ⟨m1 i hb, m2 i hb⟩) i hi
    simp only [Bool.and_eq_true] at this
    exact this.1
end Go.Proofs.YtjjjidcbokbhpaaGreat.CtD
