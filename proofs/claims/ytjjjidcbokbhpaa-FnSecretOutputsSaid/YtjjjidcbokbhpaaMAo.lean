/- Contracts of functions of the program, one behind the other, as plain data: what each call returns and which blocks it leaves. -/
import Derived.Test.YtjjjidcbokbhpaaMFacts
import Derived.Test.YtjjjidcbokbhpaaMAhX
import Derived.Test.YtjjjidcbokbhpaaMAj
import Derived.Test.YtjjjidcbokbhpaaMAn
import Derived.Test.YtjjjidcbokbhpaaMAk
import Derived.Test.YtjjjidcbokbhpaaMAl
set_option linter.unusedVariables false
set_option linter.unusedSimpArgs false
set_option maxHeartbeats 16000000
set_option maxRecDepth 100000
namespace Go.Proofs.Ytjjjidcbokbhpaa.CtD
open Go Go.CT CtF CtR

/-! Slices, plain: the least closed set. -/
def subB (a : Nat) (q : Nat → Bool) : Prop := ∀ i, a.testBit i = true → q i = true
theorem subB_or {a b : Nat} {q : Nat → Bool} : subB (a ||| b) q ↔ subB a q ∧ subB b q := by
  unfold subB
  constructor
  · intro h
    exact ⟨fun i hi => h i (by rw [Nat.testBit_or, hi, Bool.true_or]), fun i hi => h i (by rw [Nat.testBit_or, hi, Bool.or_true])⟩
  · rintro ⟨h1, h2⟩ i hi
    rw [Nat.testBit_or, Bool.or_eq_true] at hi
    exact hi.elim (h1 i) (h2 i)
theorem subB_zero (q : Nat → Bool) : subB 0 q := fun i h => by simp at h
def leB (q q' : Nat → Bool) : Prop := ∀ i, q i = true → q' i = true
/-- With more cells, a slice keeps more, and reads more. -/
theorem cut_mono (nv : Nat) {q q' : Nat → Bool} (h : leB q q') : ∀ (d : Nat) (l : List St1), (0 < (cutL q nv d l).length → 0 < (cutL q' nv d l).length) ∧ ∀ r, subB (setN q' nv d l) r → subB (setN q nv d l) r := by
  intro d
  induction d with
  | zero => intro l; exact ⟨fun h => h, fun r h => h⟩
  | succ d ih =>
    have hS : ∀ s, (cutS q nv (cutL q nv d) s).isSome = true → (cutS q' nv (cutL q' nv d) s).isSome = true := fun s => by
      obtain ⟨k, t, ix, v, c, b, e⟩ := s
      simp only [cutS]
      by_cases h5 : k = 5
      · simp [h5]
      · by_cases h1 : k = 1
        · simp only [h5, h1, if_false, if_true]
          cases hq : q t.toNat with
          | false => simp
          | true => simp [h _ hq]
        · by_cases h2 : k = 2
          · simp only [h5, h1, h2, if_false, if_true]
            cases hq : q (nv + t.toNat) with
            | false => simp
            | true => simp [h _ hq]
          · simp only [h5, h1, h2, if_false]
            intro hh
            have : 0 < (cutL q nv d b).length + (cutL q nv d e).length := by
              by_cases h0 : 0 < (cutL q nv d b).length + (cutL q nv d e).length
              · exact h0
              · rw [if_neg h0] at hh; simp at hh
            have h3 := (ih b).1
            have h4 := (ih e).1
            rw [if_pos (by omega)]; rfl
    have hA : ∀ s r a a', (subB a' r → subB a r) → subB (addS q' nv (cutL q' nv d) (setN q' nv d) a' s) r → subB (addS q nv (cutL q nv d) (setN q nv d) a s) r := fun s r a a' haa => by
      have hss := hS s
      obtain ⟨k, t, ix, v, c, b, e⟩ := s
      simp only [addS]
      have hb := (ih b).2 r
      have he := (ih e).2 r
      have h1 : subB (if k = 5 ∨ k = 1 ∨ k = 2 then a' else a' ||| (setN q' nv d b ||| setN q' nv d e)) r → subB (if k = 5 ∨ k = 1 ∨ k = 2 then a else a ||| (setN q nv d b ||| setN q nv d e)) r := by
        split
        · exact haa
        · intro hh
          rw [subB_or, subB_or] at hh ⊢
          exact ⟨haa hh.1, hb hh.2.1, he hh.2.2⟩
      intro hh
      cases hc : (cutS q nv (cutL q nv d) (.mk k t ix v c b e)).isSome with
      | true =>
        rw [hss hc] at hh
        simp only [if_true] at hh ⊢
        rw [subB_or] at hh ⊢
        exact ⟨h1 hh.1, hh.2⟩
      | false =>
        simp only [Bool.false_eq_true, if_false]
        apply h1
        split at hh
        · exact (subB_or.1 hh).1
        · exact hh
    intro l
    refine ⟨fun hl => ?_, fun r => ?_⟩
    · simp only [cutL] at hl ⊢
      obtain ⟨x, hx⟩ := List.exists_mem_of_length_pos hl
      obtain ⟨s, hs, he⟩ := List.mem_filterMap.1 hx
      have := hS s (by rw [he]; rfl)
      obtain ⟨y, hy⟩ := Option.isSome_iff_exists.1 this
      exact List.length_pos_of_mem (List.mem_filterMap.2 ⟨s, hs, hy⟩)
    · simp only [setN]
      have gen : ∀ (l : List St1) (a a' : Nat), (subB a' r → subB a r) → subB (l.foldl (addS q' nv (cutL q' nv d) (setN q' nv d)) a') r → subB (l.foldl (addS q nv (cutL q nv d) (setN q nv d)) a) r := fun l => by
        induction l with
        | nil => intro a a' h; exact h
        | cons s t iht => intro a a' h; exact iht _ _ (hA s r a a' h)
      exact gen l 0 0 (fun h => h)

structure Least (p : Pg) (ws : List Bool) (q : Nat → Bool) : Prop where
  want : ∀ i, ws.getD i false = true → q i = true
  closed : subB (setN q p.vars.length 5 p.body) q
  least : ∀ q' : Nat → Bool, (∀ i, ws.getD i false = true → q' i = true) → subB (setN q' p.vars.length 5 p.body) q' → leB q q'
theorem Least.eq {p : Pg} {ws : List Bool} {q q' : Nat → Bool} (h : Least p ws q) (h' : Least p ws q') : q = q' := funext fun i => by
  have h1 := h.least q' h'.want h'.closed i
  have h2 := h'.least q h.want h.closed i
  cases ha : q i <;> cases hb : q' i <;> simp_all

end Go.Proofs.Ytjjjidcbokbhpaa.CtD

namespace Go.Proofs.Ytjjjidcbokbhpaa.CtD
open Go Go.CT CtF CtR

def slP (p : Pg) (q : Nat → Bool) : Pg := ⟨p.vars, p.arrays, cutL q p.vars.length 5 p.body⟩
end Go.Proofs.Ytjjjidcbokbhpaa.CtD

namespace Go.Proofs.Ytjjjidcbokbhpaa.CtR
end Go.Proofs.Ytjjjidcbokbhpaa.CtR
namespace Go.Proofs.Ytjjjidcbokbhpaa.CtD
open Go Go.CT CtF CtR

def usesL (nv : Nat) : Nat → Ex → List Bool → List Bool
  | 0, _, L => L
  | d + 1, .mk k v ks, L => ks.foldl (fun L x => usesL nv d x L) (if k = 2 then L.set v.toNat true else if k = 3 then L.set (nv + v.toNat) true else L)
theorem usesL_len (nv : Nat) : ∀ (d : Nat) (e : Ex) (L : List Bool), (usesL nv d e L).length = L.length
  | 0, _, L => rfl
  | d + 1, .mk k v ks, L => by
    have gen : ∀ (ks : List Ex) (L : List Bool), (ks.foldl (fun L x => usesL nv d x L) L).length = L.length := fun ks => by
      induction ks with
      | nil => intro L; rfl
      | cons a r ih => intro L; rw [List.foldl_cons, ih, usesL_len nv d a L]
    simp only [usesL]
    rw [gen]
    split
    · simp
    · split <;> simp

end Go.Proofs.Ytjjjidcbokbhpaa.CtD

namespace Go.Proofs.Ytjjjidcbokbhpaa.CtD
open Go Go.CT CtF CtR

def needS (nv : Nat) (f : List St1 → List Bool → Bool × List Bool) (L : List Bool) : St1 → Bool × List Bool
  | .mk k t ix v c b e =>
    let y := if k = 1 then (L.getD t.toNat false, L) else if k = 2 then (L.getD (nv + t.toNat) false, L) else if k = 5 then (true, L) else ((f b L).1 || (f e (f b L).2).1, (f e (f b L).2).2)
    (y.1, if y.1 then usesL nv 5 ix (usesL nv 5 v y.2) else y.2)
def needL (nv : Nat) : Nat → List St1 → List Bool → Bool × List Bool
  | 0, _, L => (false, L)
  | d + 1, l, L => l.foldl (fun x s => (x.1 || (needS nv (needL nv d) x.2 s).1, (needS nv (needL nv d) x.2 s).2)) (false, L)
theorem boolsC_at {L : List Bool} {i : Nat} (h : i < L.length) : (boolsC L)[i]? = some (.v (.bool (L.getD i false))) := by
  unfold boolsC
  rw [List.getElem?_map, List.getD_eq_getElem?_getD, List.getElem?_eq_getElem h]; rfl

end Go.Proofs.Ytjjjidcbokbhpaa.CtD

namespace Go.Proofs.Ytjjjidcbokbhpaa.CtD
open Go Go.CT CtF CtR

def jnA (L M : List Bool) : Nat → Bool × List Bool
  | 0 => (false, L)
  | i + 1 => if M.getD i false && !(jnA L M i).2.getD i false then (true, (jnA L M i).2.set i true) else jnA L M i
theorem jnA_len (L M : List Bool) : ∀ i, (jnA L M i).2.length = L.length
  | 0 => rfl
  | i + 1 => by
    rw [jnA]
    split
    · simp [jnA_len L M i]
    · exact jnA_len L M i
theorem jnA_hi (L M : List Bool) : ∀ i j, i ≤ j → (jnA L M i).2.getD j false = L.getD j false
  | 0, j, _ => rfl
  | i + 1, j, h => by
    rw [jnA]
    split
    · rw [← jnA_hi L M i j (by omega)]
      simp only [List.getD_eq_getElem?_getD]
      rw [List.getElem?_set_ne (by omega)]
    · exact jnA_hi L M i j (by omega)
theorem jnA_iff (L M : List Bool) : ∀ i, (jnA L M i).1 = true ↔ ∃ j, j < i ∧ M.getD j false = true ∧ L.getD j false = false
  | 0 => by simp [jnA]
  | i + 1 => by
    have h := jnA_iff L M i
    have h2 := jnA_hi L M i i (Nat.le_refl _)
    rw [jnA, h2]
    cases hm : M.getD i false with
    | false =>
      simp only [Bool.false_and, Bool.false_eq_true, if_false]
      rw [h]
      constructor
      · rintro ⟨j, a, b, c⟩; exact ⟨j, by omega, b, c⟩
      · rintro ⟨j, a, b, c⟩
        refine ⟨j, ?_, b, c⟩
        rcases Nat.lt_or_eq_of_le (Nat.le_of_lt_succ a) with h | rfl
        · exact h
        · rw [hm] at b; cases b
    | true =>
      cases hl : L.getD i false with
      | true =>
        simp only [Bool.true_and, Bool.not_true, Bool.false_eq_true, if_false]
        rw [h]
        constructor
        · rintro ⟨j, a, b, c⟩; exact ⟨j, by omega, b, c⟩
        · rintro ⟨j, a, b, c⟩
          refine ⟨j, ?_, b, c⟩
          rcases Nat.lt_or_eq_of_le (Nat.le_of_lt_succ a) with h | rfl
          · exact h
          · rw [hl] at c; cases c
      | false =>
        simp only [Bool.true_and, Bool.not_false, if_true, true_iff]
        exact ⟨i, by omega, hm, hl⟩

theorem joinS (L M : List Bool) (hl : L.length ≤ 1000) (hM : M.length = L.length) :
    DC Try.prog 130 [.c (.msl 0 1 0 L.length), .c (.msl 1 1 0 L.length)] [some (boolsC L), some (boolsC M)] (fun r h => r = DB (jnA L M L.length).1 ∧ h = [some (boolsC (jnA L M L.length).2), some (boolsC M)]) := by
  have hmx := mx_eq
  have hfl := jnA_len L M
  generalize hR : (fun (r : D) (h : List (Option (List C))) => r = DB (jnA L M L.length).1 ∧ h = [some (boolsC (jnA L M L.length).2), some (boolsC M)]) = R
  refine dcZ Try.func130 ?_
  simp (maxSteps := 9999999) only [go_sem]
  ((try (refine drvZ Try.func130 ?_; simp (maxSteps := 9999999) only [go_sem])); (try ((with_reducible refine And.intro ?_ ?_) <;> (repeat' with_reducible apply And.intro) <;> try exact sd)))
  refine Go.loopQ (fun i : Nat => [(0, .c (.msl 0 1 0 L.length)), (1, .c (.msl 1 1 0 L.length)), (5, DB (jnA L M i).1), (6, DI .i64 i)])
    (fun i => [(0, some (boolsC (jnA L M i).2)), (1, some (boolsC M))]) 4096 (fun i => i ≤ L.length) (fun i => L.length - i) ?_ 0 some [] _ (Nat.zero_le _) ?_
  · intro i hi again
    have hFi := hfl i
    rcases Nat.lt_or_ge i L.length with hlt | hge
    · have a1 := @boolsC_at M i (by omega)
      have a2 := @boolsC_at (jnA L M i).2 i (by omega)
      have hs : jnA L M (i + 1) = if M.getD i false && !(jnA L M i).2.getD i false then (true, (jnA L M i).2.set i true) else jnA L M i := rfl
      have hbl := boolsC_len (jnA L M i).2
      rw [hFi] at hbl
      generalize jnA L M i = Fi at *
      obtain ⟨c, Li⟩ := Fi
      simp only at hFi hs a2 hbl
      cases hm : M.getD i false with
      | false =>
        rw [hm] at a1 hs
        simp only [Bool.false_and, Bool.false_eq_true, if_false] at hs
        refine drvL Try.func130 ?_
        simp (maxSteps := 9999999) only [go_sem, hlt, a1, a2]
        iterate 4 ((try (refine drvZ Try.func130 ?_; simp (maxSteps := 9999999) only [go_sem, hlt, a1, a2])); (try ((with_reducible refine And.intro ?_ ?_) <;> (repeat' with_reducible apply And.intro) <;> try exact sd)))
        refine again (i + 1) some [] _ hlt (by omega) ?_
        rw [hs]
        simp (maxSteps := 9999999) only [go_sem, TmOK, DM, DMs, CM, CMs, forall_eq, exists_eq_left, Mq, HpOK, LowOK]
        simp
        exact ⟨CMs.kf (boolsC_kf _), CMs.kf (boolsC_kf _)⟩
      | true =>
        rw [hm] at a1 hs
        cases hq : Li.getD i false with
        | true =>
          rw [hq] at a2 hs
          simp only [Bool.true_and, Bool.not_true, Bool.false_eq_true, if_false] at hs
          refine drvL Try.func130 ?_
          simp (maxSteps := 9999999) only [go_sem, hlt, a1, a2]
          iterate 4 ((try (refine drvZ Try.func130 ?_; simp (maxSteps := 9999999) only [go_sem, hlt, a1, a2])); (try ((with_reducible refine And.intro ?_ ?_) <;> (repeat' with_reducible apply And.intro) <;> try exact sd)))
          refine again (i + 1) some [] _ hlt (by omega) ?_
          rw [hs]
          simp (maxSteps := 9999999) only [go_sem, TmOK, DM, DMs, CM, CMs, forall_eq, exists_eq_left, Mq, HpOK, LowOK]
          simp
          exact ⟨CMs.kf (boolsC_kf _), CMs.kf (boolsC_kf _)⟩
        | false =>
          rw [hq] at a2 hs
          simp only [Bool.true_and, Bool.not_false, if_true] at hs
          refine drvL Try.func130 ?_
          simp (maxSteps := 9999999) only [go_sem, hlt, a1, a2]
          iterate 5 ((try (refine drvZ Try.func130 ?_; simp (maxSteps := 9999999) only [go_sem, hlt, a1, a2, boolsC_set, hbl])); (try ((with_reducible refine And.intro ?_ ?_) <;> (repeat' with_reducible apply And.intro) <;> try exact sd)))
          refine again (i + 1) some [] _ hlt (by omega) ?_
          rw [hs]
          simp (maxSteps := 9999999) only [go_sem, TmOK, DM, DMs, CM, CMs, forall_eq, exists_eq_left, Mq, HpOK, LowOK]
          simp
          exact ⟨CMs.kf (boolsC_kf _), CMs.kf (boolsC_kf _)⟩
    · have hn2 : ¬ i < L.length := by omega
      obtain rfl : i = L.length := by omega
      refine drvL Try.func130 ?_
      simp (maxSteps := 9999999) only [go_sem, hn2]
      iterate 2 ((try (refine drvZ Try.func130 ?_; simp (maxSteps := 9999999) only [go_sem, hn2])); (try ((with_reducible refine And.intro ?_ ?_) <;> (repeat' with_reducible apply And.intro) <;> try exact sd)))
      refine RetOb.ofQ some [] (DB (jnA L M L.length).1) [some (boolsC (jnA L M L.length).2), some (boolsC M)] ?_ (by rw [← hR]; exact ⟨rfl, rfl⟩) (by simp)
      simp [enumL, DM, DMs, CM, HpOK, LowOK, hOf, upd]
      exact ⟨CMs.kf (boolsC_kf _), CMs.kf (boolsC_kf _)⟩
  · simp (maxSteps := 9999999) only [go_sem, TmOK, DM, DMs, CM, CMs, forall_eq, exists_eq_left, Mq, HpOK, LowOK, jnA]
    simp
    exact ⟨CMs.kf (boolsC_kf _), CMs.kf (boolsC_kf _)⟩
end Go.Proofs.Ytjjjidcbokbhpaa.CtD

namespace Go.Proofs.Ytjjjidcbokbhpaa.CtD
open Go Go.CT CtF CtR

theorem cutL_nil (q : Nat → Bool) (nv d : Nat) : cutL q nv d [] = [] := by cases d <;> simp [cutL]
end Go.Proofs.Ytjjjidcbokbhpaa.CtD

namespace Go.Proofs.Ytjjjidcbokbhpaa.CtD
open Go Go.CT CtF CtR

/-! Plain: the reference's slice is the least closed set too. -/
def gL (L : List Bool) : Nat → Bool := fun i => L.getD i false
theorem gL_ext {L L' : List Bool} (h : L'.length = L.length) (h1 : leB (gL L) (gL L')) (h2 : leB (gL L') (gL L)) : L' = L := by
  apply List.ext_getElem h
  intro i a b
  have e1 := h1 i
  have e2 := h2 i
  simp only [gL, List.getD_eq_getElem?_getD, List.getElem?_eq_getElem a, List.getElem?_eq_getElem b, Option.getD_some] at e1 e2
  cases hx : L'[i] <;> cases hy : L[i] <;> simp_all
theorem gL_set {L : List Bool} {j : Nat} (h : j < L.length) (i : Nat) : gL (L.set j true) i = true ↔ gL L i = true ∨ (2 ^ j).testBit i = true := by
  simp only [gL, List.getD_eq_getElem?_getD, Nat.testBit_two_pow, decide_eq_true_eq]
  by_cases hij : j = i
  · subst hij; simp [List.getElem?_set_self h]
  · rw [List.getElem?_set_ne hij]; simp [hij]
theorem usesL_mem {p : Pg} (i : Nat) : ∀ (d : Nat) (e : Ex) (L : List Bool), CtR.shape p d e = true → L.length = p.vars.length + p.arrays.length →
    (gL (usesL p.vars.length d e L) i = true ↔ gL L i = true ∨ (occN p.vars.length d e).testBit i = true)
  | 0, e, L, h, _ => by simp [CtR.shape] at h
  | d + 1, .mk k v ks, L, h, hL => by
    obtain ⟨g1, g2, g3⟩ := shape_succ h
    obtain ⟨hl3, hla, hv0, hv1⟩ := fits_len g1
    have hlim : k = 2 → v < p.vars.length := fun hk => by subst hk; simpa [limit] using hv1
    have hlim3 : k = 3 → v < p.arrays.length := fun hk => by subst hk; simpa [limit] using hv1
    have gen : ∀ (ks : List Ex), (∀ x ∈ ks, CtR.shape p d x = true) → ∀ (M : List Bool) (a : Nat), M.length = L.length → (gL M i = true ↔ gL L i = true ∨ a.testBit i = true) →
        (gL (ks.foldl (fun L x => usesL p.vars.length d x L) M) i = true ↔ gL L i = true ∨ ((ks.map (occN p.vars.length d)).foldl (fun a b => a ||| b) a).testBit i = true) := fun ks => by
      induction ks with
      | nil => intro _ M a _ h; exact h
      | cons x r ih =>
        intro hs M a hM h
        rw [List.foldl_cons, List.map_cons, List.foldl_cons]
        refine ih (fun y hy => hs y (by simp [hy])) _ _ (by rw [usesL_len, hM]) ?_
        rw [usesL_mem i d x M (hs x (by simp)) (by omega), h, Nat.testBit_or, Bool.or_eq_true, or_assoc]
    simp only [usesL, occN]
    refine gen ks g2 _ _ (by split <;> (try split) <;> simp) ?_
    unfold occB
    by_cases h2 : k = 2
    · have := hlim h2
      simp only [h2, if_true]
      exact gL_set (by omega) i
    · by_cases h3 : k = 3
      · have := hlim3 h3
        simp only [h2, h3, if_true, if_false]
        first | exact gL_set (by omega) i | (simp only [Int.reduceEq, if_false]; exact gL_set (by omega) i)
      · simp [h2, h3]
theorem usesE_mem {p : Pg} (i : Nat) {e : Ex} (h : CtR.shape p 5 e = true ∨ e = .mk 0 0 []) (L : List Bool) (hL : L.length = p.vars.length + p.arrays.length) :
    (gL (usesL p.vars.length 5 e L) i = true ↔ gL L i = true ∨ (occN p.vars.length 5 e).testBit i = true) := by
  rcases h with h | rfl
  · exact usesL_mem i 5 e L h hL
  · simp [usesL, occN, occB]

structure NS (L L' : List Bool) (K : Bool) (A : (Nat → Bool) → Nat) (K' : (Nat → Bool) → Bool) : Prop where
  len : L'.length = L.length
  s1 : leB (gL L) (gL L')
  s2 : ∀ q', leB (gL L) q' → subB (A q') q' → leB (gL L') q' ∧ (K = true → K' q' = true)
  s3 : leB (gL L') (gL L) → subB (A (gL L)) (gL L) ∧ (K' (gL L) = true → K = true)
theorem NS.nil (L : List Bool) : NS L L false (fun _ => 0) (fun _ => false) :=
  ⟨rfl, fun i h => h, fun q' h _ => ⟨h, fun h => by cases h⟩, fun _ => ⟨subB_zero _, fun h => by cases h⟩⟩
theorem NS.seq {L L1 L2 : List Bool} {K1 K2 : Bool} {A1 A2 : (Nat → Bool) → Nat} {B1 B2 : (Nat → Bool) → Bool} (h1 : NS L L1 K1 A1 B1) (h2 : NS L1 L2 K2 A2 B2) :
    NS L L2 (K1 || K2) (fun q => A1 q ||| A2 q) (fun q => B1 q || B2 q) := by
  refine ⟨by rw [h2.len, h1.len], fun i h => h2.s1 i (h1.s1 i h), fun q' hl hs => ?_, fun hl => ?_⟩
  · obtain ⟨sa, sb⟩ := subB_or.1 hs
    have a := h1.s2 q' hl sa
    have b := h2.s2 q' a.1 sb
    refine ⟨b.1, fun h => ?_⟩
    rw [Bool.or_eq_true] at h ⊢
    exact h.imp a.2 b.2
  · have e1 : L1 = L := gL_ext h1.len h1.s1 (fun i h => hl i (h2.s1 i h))
    subst e1
    have a := h1.s3 (fun i h => h)
    have b := h2.s3 hl
    refine ⟨subB_or.2 ⟨a.1, b.1⟩, fun h => ?_⟩
    rw [Bool.or_eq_true] at h ⊢
    exact h.imp a.2 b.2
theorem NS.keep {L L1 U : List Bool} {K : Bool} {A : (Nat → Bool) → Nat} {B : (Nat → Bool) → Bool} (o : Nat) (h : NS L L1 K A B) (hl : U.length = L1.length) (hU : ∀ i, gL U i = true ↔ gL L1 i = true ∨ o.testBit i = true) :
    NS L (if K then U else L1) K (fun q => if B q then A q ||| o else A q) B := by
  cases hK : K with
  | false =>
    rw [hK] at h
    refine ⟨h.len, h.s1, fun q' hle hs => ?_, fun hle => ?_⟩
    · have : subB (A q') q' := by
        split at hs
        · exact (subB_or.1 hs).1
        · exact hs
      exact h.s2 q' hle this
    · have a := h.s3 hle
      have hb : B (gL L) = false := by
        cases hB : B (gL L) with
        | false => rfl
        | true => exact absurd (a.2 hB) (by simp)
      refine ⟨?_, a.2⟩
      simp only [hb, Bool.false_eq_true, if_false]
      exact a.1
  | true =>
    rw [hK] at h
    refine ⟨by rw [if_pos rfl, hl, h.len], fun i hi => ?_, fun q' hle hs => ?_, fun hle => ?_⟩
    · rw [if_pos rfl]; exact (hU i).2 (.inl (h.s1 i hi))
    · have a : subB (A q') q' := by
        split at hs
        · exact (subB_or.1 hs).1
        · exact hs
      have b := h.s2 q' hle a
      refine ⟨fun i hi => ?_, b.2⟩
      rw [if_pos rfl] at hi
      have hb := b.2 rfl
      simp only [hb, if_true] at hs
      rcases (hU i).1 hi with h1 | h1
      · exact b.1 i h1
      · exact (subB_or.1 hs).2 i h1
    · rw [if_pos rfl] at hle
      have a := h.s3 (fun i hi => hle i ((hU i).2 (.inl hi)))
      refine ⟨?_, a.2⟩
      have ho : subB o (gL L) := fun i hi => hle i ((hU i).2 (.inr hi))
      split
      · exact subB_or.2 ⟨a.1, ho⟩
      · exact a.1
theorem addS_or (q : Nat → Bool) (nv : Nat) (f : List St1 → List St1) (g : List St1 → Nat) (a : Nat) (s : St1) : addS q nv f g a s = a ||| addS q nv f g 0 s := by
  obtain ⟨k, t, ix, v, c, b, e⟩ := s
  simp only [addS]
  split <;> split <;> simp [Nat.or_assoc]
theorem NS.fold (nv : Nat) (f : List St1 → List Bool → Bool × List Bool) (g : (Nat → Bool) → List St1 → List St1) (w : (Nat → Bool) → List St1 → Nat) (L0 : List Bool) : ∀ (l : List St1) (x : Bool × List Bool) (A : (Nat → Bool) → Nat) (B : (Nat → Bool) → Bool),
    (∀ s ∈ l, ∀ L : List Bool, L.length = L0.length → NS L (needS nv f L s).2 (needS nv f L s).1 (fun q => addS q nv (g q) (w q) 0 s) (fun q => (cutS q nv (g q) s).isSome)) → NS L0 x.2 x.1 A B →
    NS L0 (l.foldl (fun x s => (x.1 || (needS nv f x.2 s).1, (needS nv f x.2 s).2)) x).2 (l.foldl (fun x s => (x.1 || (needS nv f x.2 s).1, (needS nv f x.2 s).2)) x).1 (fun q => l.foldl (addS q nv (g q) (w q)) (A q)) (fun q => B q || l.any fun s => (cutS q nv (g q) s).isSome)
  | [], x, A, B, _, h => by simpa using h
  | s :: r, x, A, B, hs, h => by
    have h1 := h.seq (hs s (by simp) x.2 h.len)
    have h2 := NS.fold nv f g w L0 r (x.1 || (needS nv f x.2 s).1, (needS nv f x.2 s).2) _ _ (fun y hy => hs y (by simp [hy])) h1
    simp only [List.foldl_cons, List.any_cons]
    have e1 : (fun q => List.foldl (addS q nv (g q) (w q)) (addS q nv (g q) (w q) (A q) s) r) = (fun q => List.foldl (addS q nv (g q) (w q)) (A q ||| addS q nv (g q) (w q) 0 s) r) := funext fun q => by rw [addS_or]
    rw [e1]
    simp only [Bool.or_assoc] at h2 ⊢
    exact h2
theorem any_pos (f : St1 → Option St1) (l : List St1) : (l.any fun s => (f s).isSome) = decide (0 < (l.filterMap f).length) := by
  induction l with
  | nil => rfl
  | cons a r ih =>
    rw [List.any_cons, List.filterMap_cons, ih]
    cases h : f a <;> simp
theorem NS.need {p : Pg} : ∀ (d : Nat) (l : List St1) (L : List Bool), (∀ s ∈ l, stmtOK p d s = true) → L.length = p.vars.length + p.arrays.length →
    NS L (needL p.vars.length d l L).2 (needL p.vars.length d l L).1 (fun q => setN q p.vars.length d l) (fun q => decide (0 < (cutL q p.vars.length d l).length))
  | 0, l, L, h, _ => by
    have := NS.nil L
    simpa [needL, setN, cutL] using this
  | d + 1, l, L, h, hL => by
    have hone : ∀ s ∈ l, ∀ M : List Bool, M.length = L.length → NS M (needS p.vars.length (needL p.vars.length d) M s).2 (needS p.vars.length (needL p.vars.length d) M s).1 (fun q => addS q p.vars.length (cutL q p.vars.length d) (setN q p.vars.length d) 0 s) (fun q => (cutS q p.vars.length (cutL q p.vars.length d) s).isSome) := fun s hs M hM => by
      have hok := h s hs
      obtain ⟨k, t, ix, v, c, b, e⟩ := s
      have hbe := stmtOK_succ hok
      have hex := exprs_of hok
      have hb := NS.need d b M hbe.2.1 (by omega)
      have he := NS.need d e (needL p.vars.length d b M).2 hbe.2.2 (by rw [hb.len]; omega)
      have hU : ∀ M1 : List Bool, M1.length = L.length → ∀ i, gL (usesL p.vars.length 5 ix (usesL p.vars.length 5 v M1)) i = true ↔ gL M1 i = true ∨ (occN p.vars.length 5 v ||| occN p.vars.length 5 ix).testBit i = true := fun M1 hM1 i => by
        rw [usesE_mem i hex.1 _ (by rw [usesL_len]; omega), usesE_mem i hex.2 _ (by omega), Nat.testBit_or, Bool.or_eq_true, or_assoc]
      have hlen : ∀ M1 : List Bool, (usesL p.vars.length 5 ix (usesL p.vars.length 5 v M1)).length = M1.length := fun M1 => by rw [usesL_len, usesL_len]
      have h0 : ∀ q : Nat → Bool, 0 ||| (occN p.vars.length 5 v ||| occN p.vars.length 5 ix) = (occN p.vars.length 5 v ||| occN p.vars.length 5 ix) := fun q => Nat.zero_or _
      by_cases h5 : k = 5
      · have base : NS M M true (fun _ => 0) (fun _ => true) := ⟨rfl, fun i h => h, fun q' h _ => ⟨h, fun _ => rfl⟩, fun _ => ⟨subB_zero _, fun _ => rfl⟩⟩
        have := base.keep (U := usesL p.vars.length 5 ix (usesL p.vars.length 5 v M)) _ (hlen M) (hU M hM)
        simpa [needS, addS, cutS, h5] using this
      · by_cases h1 : k = 1
        · have base : NS M M (gL M t.toNat) (fun _ => 0) (fun q => q t.toNat) := ⟨rfl, fun i h => h, fun q' h _ => ⟨h, fun h1 => h _ h1⟩, fun _ => ⟨subB_zero _, fun h => h⟩⟩
          have := base.keep (U := usesL p.vars.length 5 ix (usesL p.vars.length 5 v M)) _ (hlen M) (hU M hM)
          have ek : ∀ q : Nat → Bool, (cutS q p.vars.length (cutL q p.vars.length d) (.mk k t ix v c b e)).isSome = q t.toNat := fun q => by simp only [cutS, h5, h1, if_false, if_true]; cases q t.toNat <;> simp
          simp only [addS, ek]
          simpa [needS, gL, h5, h1] using this
        · by_cases h2 : k = 2
          · have base : NS M M (gL M (p.vars.length + t.toNat)) (fun _ => 0) (fun q => q (p.vars.length + t.toNat)) := ⟨rfl, fun i h => h, fun q' h _ => ⟨h, fun h1 => h _ h1⟩, fun _ => ⟨subB_zero _, fun h => h⟩⟩
            have := base.keep (U := usesL p.vars.length 5 ix (usesL p.vars.length 5 v M)) _ (hlen M) (hU M hM)
            have ek : ∀ q : Nat → Bool, (cutS q p.vars.length (cutL q p.vars.length d) (.mk k t ix v c b e)).isSome = q (p.vars.length + t.toNat) := fun q => by simp only [cutS, h5, h1, h2, if_false, if_true]; cases q (p.vars.length + t.toNat) <;> simp
            simp only [addS, ek]
            simpa [needS, gL, h5, h1, h2] using this
          · have base := hb.seq he
            have hl2 : (needL p.vars.length d e (needL p.vars.length d b M).2).2.length = L.length := by rw [he.len, hb.len, hM]
            have := base.keep (U := usesL p.vars.length 5 ix (usesL p.vars.length 5 v (needL p.vars.length d e (needL p.vars.length d b M).2).2)) _ (hlen _) (hU _ hl2)
            have ek : ∀ q : Nat → Bool, (cutS q p.vars.length (cutL q p.vars.length d) (.mk k t ix v c b e)).isSome = (decide (0 < (cutL q p.vars.length d b).length) || decide (0 < (cutL q p.vars.length d e).length)) := fun q => by
              simp only [cutS, h5, h1, h2, if_false]
              by_cases hpos : 0 < (cutL q p.vars.length d b).length + (cutL q p.vars.length d e).length
              · rw [if_pos hpos]
                rcases Nat.lt_or_ge 0 (cutL q p.vars.length d b).length with h | h
                · simp [h]
                · have : 0 < (cutL q p.vars.length d e).length := by omega
                  simp [this]
              · rw [if_neg hpos]
                have h1 : ¬ 0 < (cutL q p.vars.length d b).length := by omega
                have h2 : ¬ 0 < (cutL q p.vars.length d e).length := by omega
                simp only [h1, h2]; rfl
            simp only [addS, ek]
            have hc : ¬ (k = 5 ∨ k = 1 ∨ k = 2) := by omega
            simp only [needS, h5, h1, h2, if_false, or_self, Nat.zero_or]
            exact this
    have := NS.fold p.vars.length (needL p.vars.length d) (fun q => cutL q p.vars.length d) (fun q => setN q p.vars.length d) L l (false, L) _ _ hone (NS.nil L)
    simp only [any_pos, Bool.false_or] at this
    exact this

/-- The reference's loop: an invariant, and what holds where it ends. -/
structure Under (p : Pg) (ws L : List Bool) : Prop where
  len : L.length = p.vars.length + p.arrays.length
  want : leB (gL ws) (gL L)
  least : ∀ q' : Nat → Bool, (∀ i, ws.getD i false = true → q' i = true) → subB (setN q' p.vars.length 5 p.body) q' → leB (gL L) q'
theorem Under.next {p : Pg} {ws L : List Bool} (hb : ∀ s ∈ p.body, stmtOK p 5 s = true) (h : Under p ws L) : Under p ws (needL p.vars.length 5 p.body L).2 := by
  have n := NS.need 5 p.body L hb h.len
  exact ⟨by rw [n.len, h.len], fun i hi => n.s1 i (h.want i hi), fun q' h1 h2 => (n.s2 q' (h.least q' h1 h2) h2).1⟩
end Go.Proofs.Ytjjjidcbokbhpaa.CtD

namespace Go.Proofs.Ytjjjidcbokbhpaa.CtD
open Go Go.CT CtF CtR

/-! Plain: a slice answers as the program does. -/
structure AgM (q : Nat → Bool) (nv : Nat) (m m' : Mm) : Prop where
  lv : m.vals.length = m'.vals.length
  la : m.arrays.length = m'.arrays.length
  val : ∀ i, i < nv → q i = true → m.vals[i]? = m'.vals[i]?
  arr : ∀ j, q (nv + j) = true → m.arrays[j]? = m'.arrays[j]?
theorem AgM.refl (q : Nat → Bool) (nv : Nat) (m : Mm) : AgM q nv m m := ⟨rfl, rfl, fun _ _ _ => rfl, fun _ _ => rfl⟩
/-- The releases of a trace. -/
def rel (l : List Ev) : List Ev := l.filter fun e => e.kind == 4
theorem rel_app (a b : List Ev) : rel (a ++ b) = rel a ++ rel b := by simp [rel]
theorem len0 {l : List St1} (h : ¬ 0 < l.length) : l = [] := List.eq_nil_of_length_eq_zero (by omega)
/-- With fewer cells, a slice of a slice is the slice. -/
theorem cut_cut {p : Pg} {q q' : Nat → Bool} (hle : leB q' q) : ∀ (d : Nat) (l : List St1), (∀ s ∈ l, stmtOK p d s = true) →
    cutL q' p.vars.length d (cutL q p.vars.length d l) = cutL q' p.vars.length d l ∧ setN q' p.vars.length d (cutL q p.vars.length d l) = setN q' p.vars.length d l
  | 0, l, _ => ⟨rfl, rfl⟩
  | d + 1, l, hok => by
    have hone : ∀ s, stmtOK p (d + 1) s = true → (match cutS q p.vars.length (cutL q p.vars.length d) s with
        | none => cutS q' p.vars.length (cutL q' p.vars.length d) s = none ∧ addS q' p.vars.length (cutL q' p.vars.length d) (setN q' p.vars.length d) 0 s = 0
        | some s' => cutS q' p.vars.length (cutL q' p.vars.length d) s' = cutS q' p.vars.length (cutL q' p.vars.length d) s ∧ addS q' p.vars.length (cutL q' p.vars.length d) (setN q' p.vars.length d) 0 s' = addS q' p.vars.length (cutL q' p.vars.length d) (setN q' p.vars.length d) 0 s) := fun s hs => by
      obtain ⟨k, t, ix, v, c, b, e⟩ := s
      have hbe := stmtOK_succ hs
      by_cases h5 : k = 5
      · have ec : cutS q p.vars.length (cutL q p.vars.length d) (.mk k t ix v c b e) = some (.mk k t ix v c b e) := by simp [cutS, h5]
        rw [ec]; exact ⟨rfl, rfl⟩
      by_cases h1 : k = 1
      · cases hqt : q t.toNat with
        | true =>
          have ec : cutS q p.vars.length (cutL q p.vars.length d) (.mk k t ix v c b e) = some (.mk k t ix v c b e) := by simp [cutS, h1, hqt]
          rw [ec]; exact ⟨rfl, rfl⟩
        | false =>
          have hq2 : q' t.toNat = false := by
            cases hx : q' t.toNat with
            | false => rfl
            | true => rw [hle _ hx] at hqt; cases hqt
          have ec : cutS q p.vars.length (cutL q p.vars.length d) (.mk k t ix v c b e) = none := by simp [cutS, h1, hqt]
          have ec2 : cutS q' p.vars.length (cutL q' p.vars.length d) (.mk k t ix v c b e) = none := by simp [cutS, h1, hq2]
          rw [ec]
          refine ⟨ec2, ?_⟩
          simp only [addS]
          rw [ec2]
          simp [h1]
      by_cases h2 : k = 2
      · cases hqt : q (p.vars.length + t.toNat) with
        | true =>
          have ec : cutS q p.vars.length (cutL q p.vars.length d) (.mk k t ix v c b e) = some (.mk k t ix v c b e) := by simp [cutS, h2, hqt]
          rw [ec]; exact ⟨rfl, rfl⟩
        | false =>
          have hq2 : q' (p.vars.length + t.toNat) = false := by
            cases hx : q' (p.vars.length + t.toNat) with
            | false => rfl
            | true => rw [hle _ hx] at hqt; cases hqt
          have ec : cutS q p.vars.length (cutL q p.vars.length d) (.mk k t ix v c b e) = none := by simp [cutS, h2, hqt]
          have ec2 : cutS q' p.vars.length (cutL q' p.vars.length d) (.mk k t ix v c b e) = none := by simp [cutS, h2, hq2]
          rw [ec]
          refine ⟨ec2, ?_⟩
          simp only [addS]
          rw [ec2]
          simp [h2]
      have ib := cut_cut hle d b hbe.2.1
      have ie := cut_cut hle d e hbe.2.2
      have ecs : ∀ q (b e : List St1), cutS q p.vars.length (cutL q p.vars.length d) (.mk k t ix v c b e) = if 0 < (cutL q p.vars.length d b).length + (cutL q p.vars.length d e).length then some (.mk k t ix v c (cutL q p.vars.length d b) (cutL q p.vars.length d e)) else none := fun q b e => by simp [cutS, h5, h1, h2]
      have eas : ∀ (b e : List St1), addS q' p.vars.length (cutL q' p.vars.length d) (setN q' p.vars.length d) 0 (.mk k t ix v c b e) = if 0 < (cutL q' p.vars.length d b).length + (cutL q' p.vars.length d e).length then (setN q' p.vars.length d b ||| setN q' p.vars.length d e) ||| (occN p.vars.length 5 v ||| occN p.vars.length 5 ix) else setN q' p.vars.length d b ||| setN q' p.vars.length d e := fun b e => by
        simp only [addS, ecs, show ¬ (k = 5 ∨ k = 1 ∨ k = 2) by omega, if_false, Nat.zero_or]
        split <;> simp
      rw [ecs q b e]
      by_cases hp : 0 < (cutL q p.vars.length d b).length + (cutL q p.vars.length d e).length
      · rw [if_pos hp]
        simp only [ecs, eas, ib.1, ib.2, ie.1, ie.2, and_self]
      · rw [if_neg hp]
        have hb0 := len0 (show ¬ 0 < (cutL q p.vars.length d b).length by omega)
        have he0 := len0 (show ¬ 0 < (cutL q p.vars.length d e).length by omega)
        rw [hb0] at ib
        rw [he0] at ie
        have z1 : setN q' p.vars.length d [] = 0 := by cases d <;> simp [setN]
        simp only [ecs, eas, ← ib.1, ← ib.2, ← ie.1, ← ie.2, cutL_nil, z1]
        simp
    have gen : ∀ (l : List St1), (∀ s ∈ l, stmtOK p (d + 1) s = true) → ∀ a, (l.filterMap (cutS q p.vars.length (cutL q p.vars.length d))).filterMap (cutS q' p.vars.length (cutL q' p.vars.length d)) = l.filterMap (cutS q' p.vars.length (cutL q' p.vars.length d)) ∧
        (l.filterMap (cutS q p.vars.length (cutL q p.vars.length d))).foldl (addS q' p.vars.length (cutL q' p.vars.length d) (setN q' p.vars.length d)) a = l.foldl (addS q' p.vars.length (cutL q' p.vars.length d) (setN q' p.vars.length d)) a := fun l => by
      induction l with
      | nil => intro _ a; exact ⟨rfl, rfl⟩
      | cons s r ih =>
        intro hok a
        have h1 := hone s (hok s (by simp))
        have ih := ih fun x hx => hok x (by simp [hx])
        rw [List.filterMap_cons]
        cases hc : cutS q p.vars.length (cutL q p.vars.length d) s with
        | none =>
          rw [hc] at h1
          simp only at h1
          simp only [List.filterMap_cons, List.foldl_cons, h1.1]
          rw [addS_or, h1.2, Nat.or_zero]
          exact ih a
        | some s' =>
          rw [hc] at h1
          simp only at h1
          simp only [List.filterMap_cons, List.foldl_cons, h1.1]
          rw [addS_or _ _ _ _ a s', addS_or _ _ _ _ a s, h1.2]
          refine ⟨?_, (ih _).2⟩
          rw [(ih 0).1]
    simp only [cutL, setN]
    exact gen l hok 0
/-- The least closed set of a program is the least closed set of its slice. -/
theorem Least.slice {p : Pg} {ws : List Bool} {q : Nat → Bool} (hok : ∀ s ∈ p.body, stmtOK p 5 s = true) (h : Least p ws q) : Least (slP p q) ws q := by
  refine ⟨h.want, ?_, fun q' h1 h2 i hi => ?_⟩
  · have := (cut_cut (q := q) (q' := q) (fun i h => h) 5 p.body hok).2
    simp only [slP]
    rw [this]
    exact h.closed
  · have hle : leB (fun i => q' i && q i) q := fun i h => by simp only [Bool.and_eq_true] at h; exact h.2
    have hle' : leB (fun i => q' i && q i) q' := fun i h => by simp only [Bool.and_eq_true] at h; exact h.1
    have e := (cut_cut hle 5 p.body hok).2
    simp only [slP] at h2
    have m1 := (cut_mono p.vars.length hle' 5 (cutL q p.vars.length 5 p.body)).2 q' h2
    rw [e] at m1
    have m2 := (cut_mono p.vars.length hle 5 p.body).2 q h.closed
    have := h.least (fun i => q' i && q i) (fun i hw => by simp only [Bool.and_eq_true]; exact ⟨h1 i hw, h.want i hw⟩) (fun i hb => by simp only [Bool.and_eq_true]; exact ⟨m1 i hb, m2 i hb⟩) i hi
    simp only [Bool.and_eq_true] at this
    exact this.1
end Go.Proofs.Ytjjjidcbokbhpaa.CtD

namespace Go.Proofs.Ytjjjidcbokbhpaa.CtR
open Go Go.CT CtF

/-- A label is secret; one flows to another. -/
def secL (l : Nat) : Bool := l.testBit 0
def trustL (l : Nat) : Bool := !l.testBit 1
def subL (a b : Nat) : Bool := a ||| b == b
def kid0 : List Ex → Ex
  | [] => .mk 0 0 []
  | e :: _ => e
/-- An expression reads at a secret index. -/
def secE (vs ar : List Int) : Nat → Ex → Bool
  | 0, _ => false
  | d + 1, .mk k v ks => (k == 3 && secL (labN vs ar d (kid0 ks))) || ks.any (secE vs ar d)
/-- What the label of a statement's writing is. -/
def storedN (vs ar : List Int) (s : St1) (c : Nat) : Nat := if s.kind = 2 then labN vs ar 5 s.value ||| c ||| labN vs ar 5 s.index else labN vs ar 5 s.value ||| c
def flowR (vs ar : List Int) (s : St1) (c : Nat) : Int :=
  if s.kind = 1 then (if subL (storedN vs ar s c) (nth vs s.target).toNat then 0 else 1)
  else if s.kind = 2 then (if subL (storedN vs ar s c) (nth ar s.target).toNat then 0 else 1)
  else if s.kind = 5 then (if trustL (labN vs ar 5 s.value) && c == 0 then 0 else 2) else 0
def leakR (vs ar : List Int) (s : St1) (_ : Nat) : Int :=
  if s.kind = 3 ∧ secL (labN vs ar 5 s.value) = true then 3
  else if (s.kind = 2 ∧ secL (labN vs ar 5 s.index) = true) ∨ secE vs ar 5 s.value = true then 4 else 0
def ownR (strict : Bool) (vs ar : List Int) (s : St1) (c : Nat) : Int :=
  if flowR vs ar s c ≠ 0 then flowR vs ar s c else if strict then leakR vs ar s c else 0

/-- The first result of a statement, and its number, or the next number. -/
def walkR (res : St1 → Nat → Int) (vs ar : List Int) : Nat → Nat → List St1 → Int → Int × Int
  | 0, _, _, n => (0, n)
  | d + 1, c, l, n => l.foldl (fun (x : Int × Int) s => if x.1 ≠ 0 then x else if res s c ≠ 0 then (res s c, x.2) else
      if (walkR res vs ar d (ctxI vs ar s c) s.body (x.2 + 1)).1 ≠ 0 then walkR res vs ar d (ctxI vs ar s c) s.body (x.2 + 1)
      else walkR res vs ar d (ctxI vs ar s c) s.els (walkR res vs ar d (ctxI vs ar s c) s.body (x.2 + 1)).2) (0, n)
/-- No statement has a result. -/
def fineL (res : St1 → Nat → Int) (vs ar : List Int) : Nat → Nat → List St1 → Bool
  | 0, _, _ => true
  | d + 1, c, l => l.all fun s => res s c == 0 && fineL res vs ar d (ctxI vs ar s c) s.body && fineL res vs ar d (ctxI vs ar s c) s.els

theorem walk_fine (res : St1 → Nat → Int) (vs ar : List Int) : ∀ (d c : Nat) (l : List St1) (n : Int), (walkR res vs ar d c l n).1 = 0 ↔ fineL res vs ar d c l = true
  | 0, _, _, _ => by simp [walkR, fineL]
  | d + 1, c, l, n => by
    have key : ∀ (l : List St1) (x : Int × Int), (l.foldl (fun (x : Int × Int) s => if x.1 ≠ 0 then x else if res s c ≠ 0 then (res s c, x.2) else
      if (walkR res vs ar d (ctxI vs ar s c) s.body (x.2 + 1)).1 ≠ 0 then walkR res vs ar d (ctxI vs ar s c) s.body (x.2 + 1)
      else walkR res vs ar d (ctxI vs ar s c) s.els (walkR res vs ar d (ctxI vs ar s c) s.body (x.2 + 1)).2) x).1 = 0 ↔ x.1 = 0 ∧ fineL res vs ar (d + 1) c l = true := by
      intro l
      induction l with
      | nil => intro x; simp [fineL]
      | cons a r ih =>
        intro x
        rw [List.foldl_cons, ih]
        have h1 := walk_fine res vs ar d (ctxI vs ar a c) a.body (x.2 + 1)
        have h2 := walk_fine res vs ar d (ctxI vs ar a c) a.els (walkR res vs ar d (ctxI vs ar a c) a.body (x.2 + 1)).2
        simp only [fineL, List.all_cons, Bool.and_eq_true, beq_iff_eq] at h1 h2 ⊢
        by_cases hx : x.1 = 0
        · by_cases hr : res a c = 0
          · by_cases hb : (walkR res vs ar d (ctxI vs ar a c) a.body (x.2 + 1)).1 = 0
            · have hb2 := h1.1 hb
              simp only [hx, hr, hb, hb2, ne_eq, not_true_eq_false, if_false, true_and]
              rw [h2]
            · have hb2 : ¬ fineL res vs ar d (ctxI vs ar a c) a.body = true := fun h => hb (h1.2 h)
              simp only [hx, hr, ne_eq, not_true_eq_false, if_false, true_and]
              rw [if_pos hb]
              simp [hb, hb2]
          · simp [hx, hr]
        · simp [hx]
    have := key l (0, n)
    simpa [walkR] using this

/-- What telling of statements in order makes of the first result. -/
structure Fst where
  code : Int
  at_ : Int
  n : Int
def fstStep (res : St1 → Nat → Int) (x : Fst) (s : St1) (c : Nat) : Fst :=
  if x.code = 0 then ⟨res s c, if res s c ≠ 0 then x.n else x.at_, x.n + 1⟩ else ⟨x.code, x.at_, x.n + 1⟩
theorem each_walk (res : St1 → Nat → Int) (vs ar : List Int) : ∀ (d c : Nat) (l : List St1) (x : Fst),
    (eachF vs ar (fstStep res) d c x l).n = x.n + lsize d l ∧
    (x.code ≠ 0 → (eachF vs ar (fstStep res) d c x l).code = x.code ∧ (eachF vs ar (fstStep res) d c x l).at_ = x.at_) ∧
    (x.code = 0 → (eachF vs ar (fstStep res) d c x l).code = (walkR res vs ar d c l x.n).1 ∧
      (eachF vs ar (fstStep res) d c x l).at_ = (if (walkR res vs ar d c l x.n).1 = 0 then x.at_ else (walkR res vs ar d c l x.n).2) ∧
      ((walkR res vs ar d c l x.n).1 = 0 → (walkR res vs ar d c l x.n).2 = x.n + lsize d l))
  | 0, c, l, x => by simp [eachF, walkR, lsize_zero]
  | d + 1, c, l, x => by
    let F := fun (x : Int × Int) s => if x.1 ≠ 0 then x else if res s c ≠ 0 then (res s c, x.2) else
      if (walkR res vs ar d (ctxI vs ar s c) s.body (x.2 + 1)).1 ≠ 0 then walkR res vs ar d (ctxI vs ar s c) s.body (x.2 + 1)
      else walkR res vs ar d (ctxI vs ar s c) s.els (walkR res vs ar d (ctxI vs ar s c) s.body (x.2 + 1)).2
    let G := fun x s => eachF vs ar (fstStep res) d (ctxI vs ar s c) (eachF vs ar (fstStep res) d (ctxI vs ar s c) (fstStep res x s c) s.body) s.els
    have hone : ∀ (s : St1) (x : Fst), (G x s).n = x.n + tsize (d + 1) s ∧ (x.code ≠ 0 → (G x s).code = x.code ∧ (G x s).at_ = x.at_) ∧
        (x.code = 0 → (G x s).code = (F (0, x.n) s).1 ∧ (G x s).at_ = (if (F (0, x.n) s).1 = 0 then x.at_ else (F (0, x.n) s).2) ∧ ((F (0, x.n) s).1 = 0 → (F (0, x.n) s).2 = x.n + tsize (d + 1) s)) := by
      intro s x
      have hs := tsize_subs d s
      simp only [subs] at hs
      obtain ⟨a1, a2, a3⟩ := each_walk res vs ar d (ctxI vs ar s c) s.body (fstStep res x s c)
      obtain ⟨b1, b2, b3⟩ := each_walk res vs ar d (ctxI vs ar s c) s.els (eachF vs ar (fstStep res) d (ctxI vs ar s c) (fstStep res x s c) s.body)
      have hn : (fstStep res x s c).n = x.n + 1 := by unfold fstStep; split <;> rfl
      refine ⟨by simp only [G]; rw [b1, a1, hn, hs]; push_cast; omega, fun hx => ?_, fun hx => ?_⟩
      · have e1 : (fstStep res x s c).code = x.code := by unfold fstStep; rw [if_neg hx]
        have e2 : (fstStep res x s c).at_ = x.at_ := by unfold fstStep; rw [if_neg hx]
        obtain ⟨c1, c2⟩ := a2 (by rw [e1]; exact hx)
        obtain ⟨d1, d2⟩ := b2 (by rw [c1, e1]; exact hx)
        exact ⟨d1.trans (c1.trans e1), d2.trans (c2.trans e2)⟩
      · have e1 : (fstStep res x s c).code = res s c := by unfold fstStep; rw [if_pos hx]
        have e2 : (fstStep res x s c).at_ = if res s c ≠ 0 then x.n else x.at_ := by unfold fstStep; rw [if_pos hx]
        by_cases hr : res s c = 0
        · rw [e1, hn] at a3
          obtain ⟨c1, c2, c3⟩ := a3 hr
          by_cases hb : (walkR res vs ar d (ctxI vs ar s c) s.body (x.n + 1)).1 = 0
          · have hm : (eachF vs ar (fstStep res) d (ctxI vs ar s c) (fstStep res x s c) s.body).n = (walkR res vs ar d (ctxI vs ar s c) s.body (x.n + 1)).2 := by rw [a1, hn, c3 hb]
            rw [hm] at b3
            obtain ⟨d1, d2, d3⟩ := b3 (by rw [c1]; exact hb)
            have hF : F (0, x.n) s = walkR res vs ar d (ctxI vs ar s c) s.els (walkR res vs ar d (ctxI vs ar s c) s.body (x.n + 1)).2 := by
              simp only [F, hr, hb, ne_eq, not_true_eq_false, if_false]
            rw [hF]
            refine ⟨d1, ?_, fun h => ?_⟩
            · simp only [G]
              rw [d2, c2, e2, if_pos hb]
              simp [hr]
            · rw [d3 h, c3 hb, hs]; push_cast; omega
          · have hF : F (0, x.n) s = walkR res vs ar d (ctxI vs ar s c) s.body (x.n + 1) := by
              simp only [F, hr, ne_eq, not_true_eq_false, if_false]
              rw [if_pos hb]
            rw [hF]
            obtain ⟨d1, d2⟩ := b2 (by rw [c1]; exact hb)
            refine ⟨d1.trans c1, ?_, fun h => absurd h hb⟩
            simp only [G]
            rw [d2, c2, if_neg hb, if_neg hb]
        · have hF : F (0, x.n) s = (res s c, x.n) := by simp only [F, ne_eq, not_true_eq_false, if_false]; rw [if_pos hr]
          rw [hF]
          obtain ⟨c1, c2⟩ := a2 (by rw [e1]; exact hr)
          obtain ⟨d1, d2⟩ := b2 (by rw [c1, e1]; exact hr)
          refine ⟨d1.trans (c1.trans e1), ?_, fun h => absurd h hr⟩
          simp only [G]
          rw [d2, c2, e2, if_neg hr, if_pos hr]
    have hF1 : ∀ (y : Int × Int) (s : St1), y.1 ≠ 0 → F y s = y := fun y s h => by simp only [F]; rw [if_pos h]
    have hFn : ∀ (l : List St1) (y : Int × Int), y.1 ≠ 0 → l.foldl F y = y := by
      intro l
      induction l with
      | nil => intro y _; rfl
      | cons a r ih => intro y h; rw [List.foldl_cons, hF1 y a h, ih y h]
    have eG : eachF vs ar (fstStep res) (d + 1) c x l = l.foldl G x := rfl
    have eF : walkR res vs ar (d + 1) c l x.n = l.foldl F (0, x.n) := rfl
    rw [eG, eF]
    clear_value F G
    clear eG eF
    have key : ∀ (l : List St1) (x : Fst), (l.foldl G x).n = x.n + lsize (d + 1) l ∧ (x.code ≠ 0 → (l.foldl G x).code = x.code ∧ (l.foldl G x).at_ = x.at_) ∧
        (x.code = 0 → (l.foldl G x).code = (l.foldl F (0, x.n)).1 ∧ (l.foldl G x).at_ = (if (l.foldl F (0, x.n)).1 = 0 then x.at_ else (l.foldl F (0, x.n)).2) ∧ ((l.foldl F (0, x.n)).1 = 0 → (l.foldl F (0, x.n)).2 = x.n + lsize (d + 1) l)) := by
      intro l
      induction l with
      | nil => intro x; simp [lsize]
      | cons a r ih =>
        intro x
        obtain ⟨h1, h2, h3⟩ := hone a x
        obtain ⟨g1, g2, g3⟩ := ih (G x a)
        have hsz : lsize (d + 1) (a :: r) = tsize (d + 1) a + lsize (d + 1) r := by simp [lsize]
        rw [show (a :: r).foldl G x = r.foldl G (G x a) from rfl, show (a :: r).foldl F (0, x.n) = r.foldl F (F (0, x.n) a) from rfl]
        refine ⟨by rw [g1, h1, hsz]; push_cast; omega, fun hx => ?_, fun hx => ?_⟩
        · obtain ⟨c1, c2⟩ := h2 hx
          obtain ⟨d1, d2⟩ := g2 (by rw [c1]; exact hx)
          exact ⟨d1.trans c1, d2.trans c2⟩
        · obtain ⟨c1, c2, c3⟩ := h3 hx
          by_cases hb : (F (0, x.n) a).1 = 0
          · have e : F (0, x.n) a = (0, (G x a).n) := Prod.ext hb (by rw [c3 hb, h1])
            obtain ⟨d1, d2, d3⟩ := g3 (by rw [c1]; exact hb)
            rw [e]
            refine ⟨d1, by rw [d2, c2, if_pos hb], fun h => by rw [d3 h, h1, hsz]; push_cast; omega⟩
          · rw [hFn r _ hb]
            obtain ⟨d1, d2⟩ := g2 (by rw [c1]; exact hb)
            refine ⟨d1.trans c1, by rw [d2, c2], fun h => absurd h hb⟩
    exact key l x

/-- The result of a check, and the number of a statement or -1. -/
def chkR (res : List Int → List Int → St1 → Nat → Int) (p : Pg) : Int × Int :=
  if progOK p = true then ((walkR (res p.vars p.arrays) p.vars p.arrays 5 0 p.body 0).1, if (walkR (res p.vars p.arrays) p.vars p.arrays 5 0 p.body 0).1 = 0 then -1 else (walkR (res p.vars p.arrays) p.vars p.arrays 5 0 p.body 0).2) else (5, -1)
def fineP (res : List Int → List Int → St1 → Nat → Int) (p : Pg) : Bool := progOK p && fineL (res p.vars p.arrays) p.vars p.arrays 5 0 p.body
theorem chk_fine (res : List Int → List Int → St1 → Nat → Int) (p : Pg) : (chkR res p).1 = 0 ↔ fineP res p = true := by
  unfold chkR fineP
  cases h : progOK p with
  | false => simp
  | true => simp only [if_true, Bool.true_and]; exact walk_fine _ _ _ _ _ _ _
theorem own_flow (p : Pg) : chkR (ownR false) p = chkR flowR p := by
  have : (ownR false) = flowR := by
    funext vs ar s c
    simp only [ownR]
    split
    · rfl
    · rename_i h; simp only [ne_eq, Classical.not_not] at h; simp [h]
  rw [this]
end Go.Proofs.Ytjjjidcbokbhpaa.CtR

namespace Go.Proofs.Ytjjjidcbokbhpaa.CtR
open Go Go.CT CtF

/-- Two memories agree where labels lack a bit. -/
structure LowM (β : Nat) (p : Pg) (m m' : Mm) : Prop where
  lv : m.vals.length = m'.vals.length
  la : m.arrays.length = m'.arrays.length
  val : ∀ (i : Nat) (x : Int), p.vars[i]? = some x → x.toNat.testBit β = false → m.vals[i]? = m'.vals[i]?
  arr : ∀ (i : Nat) (x : Int), p.arrays[i]? = some x → x.toNat.testBit β = false → m.arrays[i]? = m'.arrays[i]?
theorem LowM.refl (β : Nat) (p : Pg) (m : Mm) : LowM β p m m := ⟨rfl, rfl, fun _ _ _ _ => rfl, fun _ _ _ _ => rfl⟩
theorem LowM.symm {β : Nat} {p : Pg} {m m' : Mm} (h : LowM β p m m') : LowM β p m' m := ⟨h.lv.symm, h.la.symm, fun i x a b => (h.val i x a b).symm, fun i x a b => (h.arr i x a b).symm⟩
theorem LowM.trans {β : Nat} {p : Pg} {a b c : Mm} (h : LowM β p a b) (h' : LowM β p b c) : LowM β p a c :=
  ⟨h.lv.trans h'.lv, h.la.trans h'.la, fun i x u v => (h.val i x u v).trans (h'.val i x u v), fun i x u v => (h.arr i x u v).trans (h'.arr i x u v)⟩
theorem or_bit {β : Nat} : ∀ (l : List Nat) (a : Nat), (l.foldl (fun a b => a ||| b) a).testBit β = false ↔ a.testBit β = false ∧ ∀ x ∈ l, x.testBit β = false
  | [], a => by simp
  | b :: r, a => by rw [List.foldl_cons, or_bit r, Nat.testBit_or]; simp [and_assoc]
/-- No release. -/
def freeL : Nat → List St1 → Bool
  | 0, _ => true
  | d + 1, l => l.all fun s => s.kind != 5 && freeL d s.body && freeL d s.els
theorem subL_bit {a b β : Nat} (h : subL a b = true) (ha : a.testBit β = true) : b.testBit β = true := by
  have h : a ||| b = b := by simpa [subL] using h
  rw [← h, Nat.testBit_or, ha]; rfl
theorem subL_low {a b β : Nat} (h : subL a b = true) (hb : b.testBit β = false) : a.testBit β = false := by
  cases ha : a.testBit β with
  | false => rfl
  | true => rw [subL_bit h ha] at hb; cases hb
theorem flow_assign {vs ar : List Int} {s : St1} {c : Nat} (h : flowR vs ar s c = 0) (hk : s.kind = 1) : subL (storedN vs ar s c) (nth vs s.target).toNat = true := by
  unfold flowR at h
  rw [if_pos hk] at h
  cases hs : subL (storedN vs ar s c) (nth vs s.target).toNat with
  | true => rfl
  | false => rw [hs] at h; simp at h
theorem flow_store {vs ar : List Int} {s : St1} {c : Nat} (h : flowR vs ar s c = 0) (hk : s.kind = 2) : subL (storedN vs ar s c) (nth ar s.target).toNat = true := by
  unfold flowR at h
  rw [if_neg (by omega), if_pos hk] at h
  cases hs : subL (storedN vs ar s c) (nth ar s.target).toNat with
  | true => rfl
  | false => rw [hs] at h; simp at h

theorem shapeV {p : Pg} {d : Nat} {k t : Int} {ix v : Ex} {c : Int} {b e : List St1} (h : stmtOK p (d + 1) (.mk k t ix v c b e) = true) : (k ≠ 4 → shape p 5 v = true) ∧ (k = 2 → shape p 5 ix = true) := by
  have hk := head_kind (stmtOK_succ h).1
  constructor
  · intro h4
    rcases hk with h | h | h | h
    · exact (right_shape h.2.2.2).1
    · exact (right_shape h.2.2.2.2.2).1
    · exact (right_shape h.2).1
    · exact absurd h.1 h4
  · intro h2
    rcases hk with h | h | h | h
    · exact absurd h.1 (by omega)
    · exact (right_shape h.2.2.2.1).1
    · exact absurd h.1 (by omega)
    · exact absurd h.1 (by omega)

end Go.Proofs.Ytjjjidcbokbhpaa.CtR

namespace Go.Proofs.Ytjjjidcbokbhpaa.CtR
open Go Go.CT CtF

/-- Two traces differ first in a release. -/
def DivT (t t' : List Ev) : Prop := ∃ (pre : List Ev) (v v' : Int) (r r' : List Ev), v ≠ v' ∧ t = pre ++ ⟨4, v⟩ :: r ∧ t' = pre ++ ⟨4, v'⟩ :: r'
theorem DivT.app {t t' : List Ev} (h : DivT t t') (a b : List Ev) : DivT (t ++ a) (t' ++ b) := by
  obtain ⟨pre, v, v', r, r', h1, rfl, rfl⟩ := h
  exact ⟨pre, v, v', r ++ a, r' ++ b, h1, by simp, by simp⟩
theorem DivT.pre {t t' : List Ev} (h : DivT t t') (a : List Ev) : DivT (a ++ t) (a ++ t') := by
  obtain ⟨pre, v, v', r, r', h1, rfl, rfl⟩ := h
  exact ⟨a ++ pre, v, v', r, r', h1, by simp, by simp⟩
def ResT (p : Pg) (x x' : Mm × List Ev) : Prop := (LowM 0 p x.1 x'.1 ∧ x.2 = x'.2) ∨ DivT x.2 x'.2
theorem ResT.seq {p : Pg} {x x' y y' : Mm × List Ev} (h : ResT p x x') (h2 : LowM 0 p x.1 x'.1 → ResT p y y') : ResT p (y.1, x.2 ++ y.2) (y'.1, x'.2 ++ y'.2) := by
  rcases h with ⟨h, e⟩ | h
  · rcases h2 h with ⟨g, e2⟩ | g
    · exact .inl ⟨g, by simp only [e, e2]⟩
    · exact .inr (by simp only [e]; exact g.pre _)
  · exact .inr (h.app _ _)
theorem leak_spec {vs ar : List Int} {s : St1} {c : Nat} (h : leakR vs ar s c = 0) : (s.kind = 3 → secL (labN vs ar 5 s.value) = false) ∧ (s.kind = 2 → secL (labN vs ar 5 s.index) = false) ∧ secE vs ar 5 s.value = false := by
  unfold leakR at h
  by_cases h1 : s.kind = 3 ∧ secL (labN vs ar 5 s.value) = true
  · rw [if_pos h1] at h; omega
  · rw [if_neg h1] at h
    by_cases h2 : (s.kind = 2 ∧ secL (labN vs ar 5 s.index) = true) ∨ secE vs ar 5 s.value = true
    · rw [if_pos h2] at h; omega
    · simp only [not_or, not_and, Bool.not_eq_true] at h1 h2
      exact ⟨h1, h2.1, h2.2⟩

end Go.Proofs.Ytjjjidcbokbhpaa.CtR

namespace Go.Proofs.Ytjjjidcbokbhpaa.CtR
open Go Go.CT CtF

theorem le3 {a : Nat} (h : a ≤ 3) : a = 0 ∨ a = 1 ∨ a = 2 ∨ a = 3 := by omega
theorem subI (a b : Nat) (ha : a ≤ 3) (hb : b ≤ 3) : decide (((a ||| b : Nat) : Int) = (b : Int)) = subL a b := by
  rcases le3 ha with rfl | rfl | rfl | rfl <;> rcases le3 hb with rfl | rfl | rfl | rfl <;> decide
theorem subA (a b : Nat) (ha : a ≤ 3) (hb : b ≤ 3) : decide (((a ^^^ (a &&& b) : Nat) : Int) = 0) = subL a b := by
  rcases le3 ha with rfl | rfl | rfl | rfl <;> rcases le3 hb with rfl | rfl | rfl | rfl <;> decide
theorem secI (a : Nat) (ha : a ≤ 3) : decide (((a &&& 1 : Nat) : Int) = 1) = secL a := by
  rcases le3 ha with rfl | rfl | rfl | rfl <;> decide
theorem secI' (a : Nat) (ha : a ≤ 3) : decide (((a &&& 1 : Nat) : Int) ≠ 0) = secL a := by
  rcases le3 ha with rfl | rfl | rfl | rfl <;> decide
theorem truI (a : Nat) (ha : a ≤ 3) : decide (((a &&& 2 : Nat) : Int) = 0) = trustL a := by
  rcases le3 ha with rfl | rfl | rfl | rfl <;> decide

theorem labelFlowsS (a b : Nat) (ha : a ≤ 3) (hb : b ≤ 3) : DC Try.prog 181 [DI .i64 a, DI .i64 b] [] (fun r h => r = DB (subL a b) ∧ h = []) := by
  have h1 := labelValidS a
  have h2 := labelValidS b
  have ha' : (decide (0 ≤ (a : Int)) && decide ((a : Int) ≤ 3)) = true := by simp; omega
  have hb' : (decide (0 ≤ (b : Int)) && decide ((b : Int) ≤ 3)) = true := by simp; omega
  rw [ha'] at h1
  rw [hb'] at h2
  have hs := subI a b ha hb
  generalize hR : (fun (r : D) (h : List (Option (List C))) => r = DB (subL a b) ∧ h = []) = R
  refine dcZ Try.func181 ?_
  simp (maxSteps := 9999999) only [go_sem]
  iterate 6 ((try (refine drvZ Try.func181 ?_; simp (maxSteps := 9999999) only [go_sem])); (try ((with_reducible refine And.intro ?_ ?_) <;> (repeat' with_reducible apply And.intro) <;> try exact sd)); (try first | refine XK.p h1 ok94 ?_ | refine XK.gp h1 ok94 ?_ | refine XK.p h2 ok94 ?_ | refine XK.gp h2 ok94 ?_))
  refine RetOb.plain (d := DB _) ?_ rfl
  rw [← hR, ← hs]
  exact ⟨rfl, rfl⟩
theorem labelSecretS (a : Nat) (ha : a ≤ 3) : DC Try.prog 54 [DI .i64 a] [] (fun r h => r = DB (secL a) ∧ h = []) := by
  have h1 := labelValidS a
  have ha' : (decide (0 ≤ (a : Int)) && decide ((a : Int) ≤ 3)) = true := by simp; omega
  rw [ha'] at h1
  have hs := secI a ha
  generalize hR : (fun (r : D) (h : List (Option (List C))) => r = DB (secL a) ∧ h = []) = R
  refine dcZ Try.func54 ?_
  simp (maxSteps := 9999999) only [go_sem]
  iterate 4 ((try (refine drvZ Try.func54 ?_; simp (maxSteps := 9999999) only [go_sem])); (try ((with_reducible refine And.intro ?_ ?_) <;> (repeat' with_reducible apply And.intro) <;> try exact sd)); (try first | refine XK.p h1 ok94 ?_ | refine XK.gp h1 ok94 ?_))
  refine RetOb.plain (d := DB _) ?_ rfl
  rw [← hR, ← hs]
  exact ⟨rfl, rfl⟩
theorem labelTrustedS (a : Nat) (ha : a ≤ 3) : DC Try.prog 182 [DI .i64 a] [] (fun r h => r = DB (trustL a) ∧ h = []) := by
  have h1 := labelValidS a
  have ha' : (decide (0 ≤ (a : Int)) && decide ((a : Int) ≤ 3)) = true := by simp; omega
  rw [ha'] at h1
  have hs := truI a ha
  generalize hR : (fun (r : D) (h : List (Option (List C))) => r = DB (trustL a) ∧ h = []) = R
  refine dcZ Try.func182 ?_
  simp (maxSteps := 9999999) only [go_sem]
  iterate 4 ((try (refine drvZ Try.func182 ?_; simp (maxSteps := 9999999) only [go_sem])); (try ((with_reducible refine And.intro ?_ ?_) <;> (repeat' with_reducible apply And.intro) <;> try exact sd)); (try first | refine XK.p h1 ok94 ?_ | refine XK.gp h1 ok94 ?_))
  refine RetOb.plain (d := DB _) ?_ rfl
  rw [← hR, ← hs]
  exact ⟨rfl, rfl⟩
theorem flowsI (a b : Nat) (ha : a ≤ 3) (hb : b ≤ 3) : DC Try.prog 96 [DI .i64 a, DI .i64 b] [] (fun r h => r = DB (subL a b) ∧ h = []) := by
  have hs := subA a b ha hb
  generalize hR : (fun (r : D) (h : List (Option (List C))) => r = DB (subL a b) ∧ h = []) = R
  refine dcZ Try.func96 ?_
  simp (maxSteps := 9999999) only [go_sem]
  iterate 2 ((try (refine drvZ Try.func96 ?_; simp (maxSteps := 9999999) only [go_sem])); (try ((with_reducible refine And.intro ?_ ?_) <;> (repeat' with_reducible apply And.intro) <;> try exact sd)))
  refine RetOb.plain (d := DB _) ?_ rfl
  rw [← hR, ← hs]
  exact ⟨rfl, rfl⟩
theorem labelTrustedI (a : Nat) (ha : a ≤ 3) : DC Try.prog 98 [DI .i64 a] [] (fun r h => r = DB (trustL a) ∧ h = []) := by
  have h1 := labelValidI a
  have ha' : (decide (0 ≤ (a : Int)) && decide ((a : Int) ≤ 3)) = true := by simp; omega
  rw [ha'] at h1
  have hs := truI a ha
  generalize hR : (fun (r : D) (h : List (Option (List C))) => r = DB (trustL a) ∧ h = []) = R
  refine dcZ Try.func98 ?_
  simp (maxSteps := 9999999) only [go_sem]
  iterate 4 ((try (refine drvZ Try.func98 ?_; simp (maxSteps := 9999999) only [go_sem])); (try ((with_reducible refine And.intro ?_ ?_) <;> (repeat' with_reducible apply And.intro) <;> try exact sd)); (try first | refine XK.p h1 ok59 ?_ | refine XK.gp h1 ok59 ?_))
  refine RetOb.plain (d := DB _) ?_ rfl
  rw [← hR, ← hs]
  exact ⟨rfl, rfl⟩
theorem labelSecretI (a : Nat) (ha : a ≤ 3) : DC Try.prog 24 [DI .i64 a] [] (fun r h => r = DB (secL a) ∧ h = []) := by
  have h1 := labelValidI a
  have ha' : (decide (0 ≤ (a : Int)) && decide ((a : Int) ≤ 3)) = true := by simp; omega
  rw [ha'] at h1
  have hs := secI' a ha
  generalize hR : (fun (r : D) (h : List (Option (List C))) => r = DB (secL a) ∧ h = []) = R
  refine dcZ Try.func24 ?_
  simp (maxSteps := 9999999) only [go_sem]
  iterate 4 ((try (refine drvZ Try.func24 ?_; simp (maxSteps := 9999999) only [go_sem])); (try ((with_reducible refine And.intro ?_ ?_) <;> (repeat' with_reducible apply And.intro) <;> try exact sd)); (try first | refine XK.p h1 ok59 ?_ | refine XK.gp h1 ok59 ?_))
  refine RetOb.plain (d := DB _) ?_ rfl
  rw [← hR, ← hs]
  refine ⟨?_, rfl⟩
  rcases le3 ha with rfl | rfl | rfl | rfl <;> rfl
end Go.Proofs.Ytjjjidcbokbhpaa.CtR
