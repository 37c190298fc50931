/- Contracts of functions of the program, one behind the other, as plain data: what each call returns and which blocks it leaves. -/
import Derived.Test.YtpphageokplgoaaGreatPFacts
import Derived.Test.YtpphageokplgoaaGreatPAk
import Derived.Test.YtpphageokplgoaaGreatPAl
import Derived.Test.YtpphageokplgoaaGreatPAn
import Derived.Test.YtpphageokplgoaaGreatPAr
import Derived.Test.YtpphageokplgoaaGreatPAs
import Derived.Test.YtpphageokplgoaaGreatPAj
import Derived.Test.YtpphageokplgoaaGreatPAo
set_option linter.unusedVariables false
set_option linter.unusedSimpArgs false
set_option maxHeartbeats 16000000
set_option maxRecDepth 100000
namespace Go.Proofs.YtpphageokplgoaaGreat.CtD
open Go Go.CT CtF CtR
structure AgM (q : Nat → Bool) (nv : Nat) (m m' : Mm) : Prop where
 lv : m.vals.length = m'.vals.length
 la : m.arrays.length = m'.arrays.length
 val : ∀ i, i < nv → q i = true → m.vals[i]? = m'.vals[i]?
 arr : ∀ j, q (nv + j) = true → m.arrays[j]? = m'.arrays[j]?
theorem AgM.refl (q : Nat → Bool) (nv : Nat) (m : Mm) : AgM q nv m m := ⟨rfl, rfl, fun _ _ _ => rfl, fun _ _ => rfl⟩
theorem AgM.setV {q : Nat → Bool} {nv : Nat} {m m' : Mm} (h : AgM q nv m m') (t x : Int) : AgM q nv (setV m t x) (setV m' t x) := by
 refine ⟨by simp [CtR.setV, h.lv], h.la, fun i hi hq => ?_, h.arr⟩
 have := h.val i hi hq
 have := h.lv
 simp only [CtR.setV, List.getElem?_set]
 split <;> simp_all
theorem AgM.setA {q : Nat → Bool} {nv : Nat} {m m' : Mm} (h : AgM q nv m m') {t : Int} (i x : Int) (ht : q (nv + t.toNat) = true) : AgM q nv (CtR.setA m t i x) (CtR.setA m' t i x) := by
 have ha : arrAt m t = arrAt m' t := by unfold arrAt; rw [List.getD_eq_getElem?_getD, List.getD_eq_getElem?_getD, h.arr _ ht]
 refine ⟨h.lv, by simp [CtR.setA, h.la], h.val, fun j hq => ?_⟩
 have h1 := h.arr j hq
 have h2 := h.la
 simp only [CtR.setA, List.getElem?_set, ha]
 split <;> simp_all
def rel (l : List Ev) : List Ev := l.filter fun e => e.kind == 4
theorem rel_app (a b : List Ev) : rel (a ++ b) = rel a ++ rel b := by simp [rel]
theorem evalE_no4 (m : Mm) : ∀ (d : Nat) (e : Ex), ∀ x ∈ (evalE m d e).2, x.kind ≠ 4
 | 0, e => by simp [evalE]
 | d + 1, .mk k v ks => by
  have hf : ∀ x ∈ (ks.map fun e => (evalE m d e).2).flatten, x.kind ≠ 4 := fun x hx => by
   obtain ⟨l, hl, hxl⟩ := List.mem_flatten.1 hx
   obtain ⟨e, _, rfl⟩ := List.mem_map.1 hl
   exact evalE_no4 m d e x hxl
  intro x hx
  simp only [evalE] at hx
  split at hx
  ·cases hx
  split at hx
  ·cases hx
  split at hx
  ·rcases List.mem_append.1 hx with hx | hx
   ·exact hf x hx
   ·rw [List.mem_singleton.1 hx]; simp
  split at hx
  ·exact hf x hx
  ·exact hf x hx
theorem rel_eval (m : Mm) (d : Nat) (e : Ex) : rel (evalE m d e).2 = [] := by
 unfold rel
 rw [List.filter_eq_nil_iff]
 intro x hx
 simpa using evalE_no4 m d e x hx
theorem len0 {l : List St1} (h : ¬ 0 < l.length) : l = [] := List.eq_nil_of_length_eq_zero (by omega)
theorem cut_cut {p : Pg} {q q' : Nat → Bool} (hle : leB q' q) : ∀ (d : Nat) (l : List St1), (∀ s ∈ l, stmtOK p d s = true) →
 cutL q' p.vars.length d (cutL q p.vars.length d l) = cutL q' p.vars.length d l ∧ setN q' p.vars.length d (cutL q p.vars.length d l) = setN q' p.vars.length d l
 | 0, l, _ => ⟨rfl, rfl⟩
 | d + 1, l, hok => by
  have hone : ∀ s, stmtOK p (d + 1) s = true → (match cutS q p.vars.length (cutL q p.vars.length d) s with
   | none => cutS q' p.vars.length (cutL q' p.vars.length d) s = none ∧ addS q' p.vars.length (cutL q' p.vars.length d) (setN q' p.vars.length d) 0 s = 0
   | some s' => cutS q' p.vars.length (cutL q' p.vars.length d) s' = cutS q' p.vars.length (cutL q' p.vars.length d) s ∧ addS q' p.vars.length (cutL q' p.vars.length d) (setN q' p.vars.length d) 0 s' = addS q' p.vars.length (cutL q' p.vars.length d) (setN q' p.vars.length d) 0 s) := fun s hs => by
   obtain ⟨k, t, ix, v, c, b, e⟩ := s
   have hbe := stmtOK_succ hs
   by_cases h5 : k = 5
   ·have ec : cutS q p.vars.length (cutL q p.vars.length d) (.mk k t ix v c b e) = some (.mk k t ix v c b e) := by simp [cutS, h5]
    rw [ec]; exact ⟨rfl, rfl⟩
   by_cases h1 : k = 1
   ·cases hqt : q t.toNat with
    | true =>
     have ec : cutS q p.vars.length (cutL q p.vars.length d) (.mk k t ix v c b e) = some (.mk k t ix v c b e) := by simp [cutS, h1, hqt]
     rw [ec]; exact ⟨rfl, rfl⟩
    | false =>
     have hq2 : q' t.toNat = false := by
      cases hx : q' t.toNat with
      | false => rfl
      | true => rw [hle _ hx] at hqt; cases hqt
     have ec : cutS q p.vars.length (cutL q p.vars.length d) (.mk k t ix v c b e) = none := by simp [cutS, h1, hqt]
     have ec2 : cutS q' p.vars.length (cutL q' p.vars.length d) (.mk k t ix v c b e) = none := by simp [cutS, h1, hq2]
     rw [ec]
     refine ⟨ec2, ?_⟩
     simp only [addS]
     rw [ec2]
     simp [h1]
   by_cases h2 : k = 2
   ·cases hqt : q (p.vars.length + t.toNat) with
    | true =>
     have ec : cutS q p.vars.length (cutL q p.vars.length d) (.mk k t ix v c b e) = some (.mk k t ix v c b e) := by simp [cutS, h2, hqt]
     rw [ec]; exact ⟨rfl, rfl⟩
    | false =>
     have hq2 : q' (p.vars.length + t.toNat) = false := by
      cases hx : q' (p.vars.length + t.toNat) with
      | false => rfl
      | true => rw [hle _ hx] at hqt; cases hqt
     have ec : cutS q p.vars.length (cutL q p.vars.length d) (.mk k t ix v c b e) = none := by simp [cutS, h2, hqt]
     have ec2 : cutS q' p.vars.length (cutL q' p.vars.length d) (.mk k t ix v c b e) = none := by simp [cutS, h2, hq2]
     rw [ec]
     refine ⟨ec2, ?_⟩
     simp only [addS]
     rw [ec2]
     simp [h2]
   have ib := cut_cut hle d b hbe.2.1
   have ie := cut_cut hle d e hbe.2.2
   have ecs : ∀ q (b e : List St1), cutS q p.vars.length (cutL q p.vars.length d) (.mk k t ix v c b e) = if 0 < (cutL q p.vars.length d b).length + (cutL q p.vars.length d e).length then some (.mk k t ix v c (cutL q p.vars.length d b) (cutL q p.vars.length d e)) else none := fun q b e => by simp [cutS, h5, h1, h2]
   have eas : ∀ (b e : List St1), addS q' p.vars.length (cutL q' p.vars.length d) (setN q' p.vars.length d) 0 (.mk k t ix v c b e) = if 0 < (cutL q' p.vars.length d b).length + (cutL q' p.vars.length d e).length then (setN q' p.vars.length d b ||| setN q' p.vars.length d e) ||| (occN p.vars.length 5 v ||| occN p.vars.length 5 ix) else setN q' p.vars.length d b ||| setN q' p.vars.length d e := fun b e => by
    simp only [addS, ecs, show ¬ (k = 5 ∨ k = 1 ∨ k = 2) by omega, if_false, Nat.zero_or]
    split <;> simp
   rw [ecs q b e]
   by_cases hp : 0 < (cutL q p.vars.length d b).length + (cutL q p.vars.length d e).length
   ·rw [if_pos hp]
    simp only [ecs, eas, ib.1, ib.2, ie.1, ie.2, and_self]
   ·rw [if_neg hp]
    have hb0 := len0 (show ¬ 0 < (cutL q p.vars.length d b).length by omega)
    have he0 := len0 (show ¬ 0 < (cutL q p.vars.length d e).length by omega)
    rw [hb0] at ib
    rw [he0] at ie
    have z1 : setN q' p.vars.length d [] = 0 := by cases d <;> simp [setN]
    simp only [ecs, eas, ← ib.1, ← ib.2, ← ie.1, ← ie.2, cutL_nil, z1]
    simp
  have gen : ∀ (l : List St1), (∀ s ∈ l, stmtOK p (d + 1) s = true) → ∀ a, (l.filterMap (cutS q p.vars.length (cutL q p.vars.length d))).filterMap (cutS q' p.vars.length (cutL q' p.vars.length d)) = l.filterMap (cutS q' p.vars.length (cutL q' p.vars.length d)) ∧
   (l.filterMap (cutS q p.vars.length (cutL q p.vars.length d))).foldl (addS q' p.vars.length (cutL q' p.vars.length d) (setN q' p.vars.length d)) a = l.foldl (addS q' p.vars.length (cutL q' p.vars.length d) (setN q' p.vars.length d)) a := fun l => by
   induction l with
   | nil => intro _ a; exact ⟨rfl, rfl⟩
   | cons s r ih =>
    intro hok a
    have h1 := hone s (hok s (by simp))
    have ih := ih fun x hx => hok x (by simp [hx])
    rw [List.filterMap_cons]
    cases hc : cutS q p.vars.length (cutL q p.vars.length d) s with
    | none =>
     rw [hc] at h1
     simp only at h1
     simp only [List.filterMap_cons, List.foldl_cons, h1.1]
     rw [addS_or, h1.2, Nat.or_zero]
     exact ih a
    | some s' =>
     rw [hc] at h1
     simp only at h1
     simp only [List.filterMap_cons, List.foldl_cons, h1.1]
     rw [addS_or _ _ _ _ a s', addS_or _ _ _ _ a s, h1.2]
     refine ⟨?_, (ih _).2⟩
     rw [(ih 0).1]
  simp only [cutL, setN]
  exact gen l hok 0
theorem Least.slice {p : Pg} {ws : List Bool} {q : Nat → Bool} (hok : ∀ s ∈ p.body, stmtOK p 5 s = true) (h : Least p ws q) : Least (slP p q) ws q := by
 refine ⟨h.want, ?_, fun q' h1 h2 i hi => ?_⟩
 ·have := (cut_cut (q := q) (q' := q) (fun i h => h) 5 p.body hok).2
  simp only [slP]
  rw [this]
  exact h.closed
 ·have hle : leB (fun i => q' i && q i) q := fun i h => by simp only [Bool.and_eq_true] at h; exact h.2
  have hle' : leB (fun i => q' i && q i) q' := fun i h => by simp only [Bool.and_eq_true] at h; exact h.1
  have e := (cut_cut hle 5 p.body hok).2
  simp only [slP] at h2
  have m1 := (cut_mono p.vars.length hle' 5 (cutL q p.vars.length 5 p.body)).2 q' h2
  rw [e] at m1
  have m2 := (cut_mono p.vars.length hle 5 p.body).2 q h.closed
  have := h.least (fun i => q' i && q i) (fun i hw => by simp only [Bool.and_eq_true]; exact ⟨h1 i hw, h.want i hw⟩) (fun i hb => by simp only [Bool.and_eq_true]; exact ⟨m1 i hb, m2 i hb⟩) i hi
  simp only [Bool.and_eq_true] at this
  exact this.1
end Go.Proofs.YtpphageokplgoaaGreat.CtD
namespace Go.Proofs.YtpphageokplgoaaGreat.CtD
open Go Go.CT CtF CtR
theorem rel_snoc (a : List Ev) (e : Ev) : rel (a ++ [e]) = if e.kind == 4 then rel a ++ [e] else rel a := by
 rw [rel_app]; simp only [rel, List.filter_cons, List.filter_nil]; split <;> simp
theorem ctReleases (tr : List Ev) (hl : tr.length ≤ 2000000) : DC Tryz.prog 33 [.c (trD tr)] [] (fun r h => r = .c (trD (rel tr)) ∧ h = []) := by
 have hmx := mx_eq
 have hle : ∀ i, (rel (tr.take i)).length ≤ i := fun i => Nat.le_trans (List.length_filter_le _ _) (by simp; omega)
 generalize hR : (fun (r : D) (h : List (Option (List C))) => r = .c (trD (rel tr)) ∧ h = []) = R
 refine dcZ Tryz.func33 ?_
 simp (maxSteps := 9999999) only [go_sem, trD]
 iterate 2 ((try (refine drvZ Tryz.func33 ?_; simp (maxSteps := 9999999) only [go_sem, trD])); (try ((with_reducible refine And.intro ?_ ?_) <;> (repeat' with_reducible apply And.intro) <;> try exact sd)))
 refine Go.loopQ (fun i : Nat => [(0, .c (trD tr)), (3, .c (.msl 67 2 0 (rel (tr.take i)).length)), (4, DI .i64 i)]) (fun i => [(67, some (trC (rel (tr.take i))))])
  4096 (fun i => i ≤ tr.length) (fun i => tr.length - i) ?_ 0 (fun j => if j = 67 then some 64 else some j) [] _ (Nat.zero_le _) ?_
 ·intro i hi again
  have hli := hle i
  rcases Nat.lt_or_ge i tr.length with hlt | hge
  ·obtain ⟨⟨k, v⟩, hx⟩ : ∃ x, tr[i]? = some x := ⟨tr[i], by simp [hlt]⟩
   have hs : rel (tr.take (i + 1)) = if k == 4 then rel (tr.take i) ++ [⟨k, v⟩] else rel (tr.take i) := by rw [List.take_add_one, hx]; exact rel_snoc _ _
   have hel := trC_len (rel (tr.take i))
   generalize rel (tr.take i) = T at *
   by_cases hk : k = 4
   ·subst hk
    simp only [beq_self_eq_true, if_true] at hs
    refine drvL Tryz.func33 ?_
    simp (maxSteps := 9999999) only [go_sem, trD, Ev.cells, I64, hx, hlt]
    iterate 4 ((try (refine drvZ Tryz.func33 ?_; simp (maxSteps := 9999999) only [go_sem, trD, Ev.cells, I64, hx, hlt, hel])); (try ((with_reducible refine And.intro ?_ ?_) <;> (repeat' with_reducible apply And.intro) <;> try exact sd)))
    refine again (i + 1) (fun j => if j = 67 then some 5120 else some j) [] _ hlt (by omega) ?_
    simp (maxSteps := 9999999) only [go_sem, TmOK, DM, DMs, CM, CMs, forall_eq, exists_eq_left, Mq, HpOK, LowOK, trD, hs, trC_snoc, List.length_append]
    simp
    exact CMs.kf (kf_app (trC_kf _) (by simp [kf]))
   ·have e1 : (k == 4) = false := by simp [hk]
    simp only [e1, Bool.false_eq_true, if_false] at hs
    refine drvL Tryz.func33 ?_
    simp (maxSteps := 9999999) only [go_sem, trD, Ev.cells, I64, hx, hlt, e1, hk]
    iterate 4 ((try (refine drvZ Tryz.func33 ?_; simp (maxSteps := 9999999) only [go_sem, trD, Ev.cells, I64, hx, hlt, hel, e1, hk])); (try ((with_reducible refine And.intro ?_ ?_) <;> (repeat' with_reducible apply And.intro) <;> try exact sd)))
    refine again (i + 1) some [] _ hlt (by omega) ?_
    simp (maxSteps := 9999999) only [go_sem, TmOK, DM, DMs, CM, CMs, forall_eq, exists_eq_left, Mq, HpOK, LowOK, trD, hs]
    simp
    exact CMs.kf (trC_kf _)
  ·have hn : ¬ i < tr.length := by omega
   obtain rfl : i = tr.length := by omega
   refine drvL Tryz.func33 ?_
   simp (maxSteps := 9999999) only [go_sem, trD, hn, List.take_length]
   iterate 2 ((try (refine drvZ Tryz.func33 ?_; simp (maxSteps := 9999999) only [go_sem, trD, hn, List.take_length])); (try ((with_reducible refine And.intro ?_ ?_) <;> (repeat' with_reducible apply And.intro) <;> try exact sd)))
   refine RetOb.ofQ (fun j => none) [67] (.c (trD (rel tr))) [] ?_ (by rw [← hR]; exact ⟨rfl, rfl⟩) (by simp)
   simp [enumL, hOf, DM, DMs, CM, CMs, HpOK, LowOK, upd, trD, trC, kf, Ev.cells]
 ·simp (maxSteps := 9999999) only [go_sem, TmOK, DM, DMs, CM, CMs, forall_eq, exists_eq_left, Mq, HpOK, LowOK, trD]
  simp [trC, rel, CMs]
end Go.Proofs.YtpphageokplgoaaGreat.CtD
namespace Go.Proofs.YtpphageokplgoaaGreat.CtR
open Go Go.CT CtF
def secL (l : Nat) : Bool := l.testBit 0
def trustL (l : Nat) : Bool := !l.testBit 1
def subL (a b : Nat) : Bool := a ||| b == b
def kid0 : List Ex → Ex
 | [] => .mk 0 0 []
 | e :: _ => e
def secE (vs ar : List Int) : Nat → Ex → Bool
 | 0, _ => false
 | d + 1, .mk k v ks => (k == 3 && secL (labN vs ar d (kid0 ks))) || ks.any (secE vs ar d)
def storedN (vs ar : List Int) (s : St1) (c : Nat) : Nat := if s.kind = 2 then labN vs ar 5 s.value ||| c ||| labN vs ar 5 s.index else labN vs ar 5 s.value ||| c
def flowR (vs ar : List Int) (s : St1) (c : Nat) : Int :=
 if s.kind = 1 then (if subL (storedN vs ar s c) (nth vs s.target).toNat then 0 else 1)
 else if s.kind = 2 then (if subL (storedN vs ar s c) (nth ar s.target).toNat then 0 else 1)
 else if s.kind = 5 then (if trustL (labN vs ar 5 s.value) && c == 0 then 0 else 2) else 0
def leakR (vs ar : List Int) (s : St1) (_ : Nat) : Int :=
 if s.kind = 3 ∧ secL (labN vs ar 5 s.value) = true then 3
 else if (s.kind = 2 ∧ secL (labN vs ar 5 s.index) = true) ∨ secE vs ar 5 s.value = true then 4 else 0
def ownR (strict : Bool) (vs ar : List Int) (s : St1) (c : Nat) : Int :=
 if flowR vs ar s c ≠ 0 then flowR vs ar s c else if strict then leakR vs ar s c else 0
def walkR (res : St1 → Nat → Int) (vs ar : List Int) : Nat → Nat → List St1 → Int → Int × Int
 | 0, _, _, n => (0, n)
 | d + 1, c, l, n => l.foldl (fun (x : Int × Int) s => if x.1 ≠ 0 then x else if res s c ≠ 0 then (res s c, x.2) else
  if (walkR res vs ar d (ctxI vs ar s c) s.body (x.2 + 1)).1 ≠ 0 then walkR res vs ar d (ctxI vs ar s c) s.body (x.2 + 1)
  else walkR res vs ar d (ctxI vs ar s c) s.els (walkR res vs ar d (ctxI vs ar s c) s.body (x.2 + 1)).2) (0, n)
def fineL (res : St1 → Nat → Int) (vs ar : List Int) : Nat → Nat → List St1 → Bool
 | 0, _, _ => true
 | d + 1, c, l => l.all fun s => res s c == 0 && fineL res vs ar d (ctxI vs ar s c) s.body && fineL res vs ar d (ctxI vs ar s c) s.els
theorem walk_fine (res : St1 → Nat → Int) (vs ar : List Int) : ∀ (d c : Nat) (l : List St1) (n : Int), (walkR res vs ar d c l n).1 = 0 ↔ fineL res vs ar d c l = true
 | 0, _, _, _ => by simp [walkR, fineL]
 | d + 1, c, l, n => by
  have key : ∀ (l : List St1) (x : Int × Int), (l.foldl (fun (x : Int × Int) s => if x.1 ≠ 0 then x else if res s c ≠ 0 then (res s c, x.2) else
   if (walkR res vs ar d (ctxI vs ar s c) s.body (x.2 + 1)).1 ≠ 0 then walkR res vs ar d (ctxI vs ar s c) s.body (x.2 + 1)
   else walkR res vs ar d (ctxI vs ar s c) s.els (walkR res vs ar d (ctxI vs ar s c) s.body (x.2 + 1)).2) x).1 = 0 ↔ x.1 = 0 ∧ fineL res vs ar (d + 1) c l = true := by
   intro l
   induction l with
   | nil => intro x; simp [fineL]
   | cons a r ih =>
    intro x
    rw [List.foldl_cons, ih]
    have h1 := walk_fine res vs ar d (ctxI vs ar a c) a.body (x.2 + 1)
    have h2 := walk_fine res vs ar d (ctxI vs ar a c) a.els (walkR res vs ar d (ctxI vs ar a c) a.body (x.2 + 1)).2
    simp only [fineL, List.all_cons, Bool.and_eq_true, beq_iff_eq] at h1 h2 ⊢
    by_cases hx : x.1 = 0
    ·by_cases hr : res a c = 0
     ·by_cases hb : (walkR res vs ar d (ctxI vs ar a c) a.body (x.2 + 1)).1 = 0
      ·have hb2 := h1.1 hb
       simp only [hx, hr, hb, hb2, ne_eq, not_true_eq_false, if_false, true_and]
       rw [h2]
      ·have hb2 : ¬ fineL res vs ar d (ctxI vs ar a c) a.body = true := fun h => hb (h1.2 h)
       simp only [hx, hr, ne_eq, not_true_eq_false, if_false, true_and]
       rw [if_pos hb]
       simp [hb, hb2]
     ·simp [hx, hr]
    ·simp [hx]
  have := key l (0, n)
  simpa [walkR] using this
structure Fst where
 code : Int
 at_ : Int
 n : Int
def fstStep (res : St1 → Nat → Int) (x : Fst) (s : St1) (c : Nat) : Fst :=
 if x.code = 0 then ⟨res s c, if res s c ≠ 0 then x.n else x.at_, x.n + 1⟩ else ⟨x.code, x.at_, x.n + 1⟩
theorem each_walk (res : St1 → Nat → Int) (vs ar : List Int) : ∀ (d c : Nat) (l : List St1) (x : Fst),
 (eachF vs ar (fstStep res) d c x l).n = x.n + lsize d l ∧
 (x.code ≠ 0 → (eachF vs ar (fstStep res) d c x l).code = x.code ∧ (eachF vs ar (fstStep res) d c x l).at_ = x.at_) ∧
 (x.code = 0 → (eachF vs ar (fstStep res) d c x l).code = (walkR res vs ar d c l x.n).1 ∧
  (eachF vs ar (fstStep res) d c x l).at_ = (if (walkR res vs ar d c l x.n).1 = 0 then x.at_ else (walkR res vs ar d c l x.n).2) ∧
  ((walkR res vs ar d c l x.n).1 = 0 → (walkR res vs ar d c l x.n).2 = x.n + lsize d l))
 | 0, c, l, x => by simp [eachF, walkR, lsize_zero]
 | d + 1, c, l, x => by
  let F := fun (x : Int × Int) s => if x.1 ≠ 0 then x else if res s c ≠ 0 then (res s c, x.2) else
   if (walkR res vs ar d (ctxI vs ar s c) s.body (x.2 + 1)).1 ≠ 0 then walkR res vs ar d (ctxI vs ar s c) s.body (x.2 + 1)
   else walkR res vs ar d (ctxI vs ar s c) s.els (walkR res vs ar d (ctxI vs ar s c) s.body (x.2 + 1)).2
  let G := fun x s => eachF vs ar (fstStep res) d (ctxI vs ar s c) (eachF vs ar (fstStep res) d (ctxI vs ar s c) (fstStep res x s c) s.body) s.els
  have hone : ∀ (s : St1) (x : Fst), (G x s).n = x.n + tsize (d + 1) s ∧ (x.code ≠ 0 → (G x s).code = x.code ∧ (G x s).at_ = x.at_) ∧
   (x.code = 0 → (G x s).code = (F (0, x.n) s).1 ∧ (G x s).at_ = (if (F (0, x.n) s).1 = 0 then x.at_ else (F (0, x.n) s).2) ∧ ((F (0, x.n) s).1 = 0 → (F (0, x.n) s).2 = x.n + tsize (d + 1) s)) := by
   intro s x
   have hs := tsize_subs d s
   simp only [subs] at hs
   obtain ⟨a1, a2, a3⟩ := each_walk res vs ar d (ctxI vs ar s c) s.body (fstStep res x s c)
   obtain ⟨b1, b2, b3⟩ := each_walk res vs ar d (ctxI vs ar s c) s.els (eachF vs ar (fstStep res) d (ctxI vs ar s c) (fstStep res x s c) s.body)
   have hn : (fstStep res x s c).n = x.n + 1 := by unfold fstStep; split <;> rfl
   refine ⟨by simp only [G]; rw [b1, a1, hn, hs]; push_cast; omega, fun hx => ?_, fun hx => ?_⟩
   ·have e1 : (fstStep res x s c).code = x.code := by unfold fstStep; rw [if_neg hx]
    have e2 : (fstStep res x s c).at_ = x.at_ := by unfold fstStep; rw [if_neg hx]
    obtain ⟨c1, c2⟩ := a2 (by rw [e1]; exact hx)
    obtain ⟨d1, d2⟩ := b2 (by rw [c1, e1]; exact hx)
    exact ⟨d1.trans (c1.trans e1), d2.trans (c2.trans e2)⟩
   ·have e1 : (fstStep res x s c).code = res s c := by unfold fstStep; rw [if_pos hx]
    have e2 : (fstStep res x s c).at_ = if res s c ≠ 0 then x.n else x.at_ := by unfold fstStep; rw [if_pos hx]
    by_cases hr : res s c = 0
    ·rw [e1, hn] at a3
     obtain ⟨c1, c2, c3⟩ := a3 hr
     by_cases hb : (walkR res vs ar d (ctxI vs ar s c) s.body (x.n + 1)).1 = 0
     ·have hm : (eachF vs ar (fstStep res) d (ctxI vs ar s c) (fstStep res x s c) s.body).n = (walkR res vs ar d (ctxI vs ar s c) s.body (x.n + 1)).2 := by rw [a1, hn, c3 hb]
      rw [hm] at b3
      obtain ⟨d1, d2, d3⟩ := b3 (by rw [c1]; exact hb)
      have hF : F (0, x.n) s = walkR res vs ar d (ctxI vs ar s c) s.els (walkR res vs ar d (ctxI vs ar s c) s.body (x.n + 1)).2 := by
       simp only [F, hr, hb, ne_eq, not_true_eq_false, if_false]
      rw [hF]
      refine ⟨d1, ?_, fun h => ?_⟩
      ·simp only [G]
       rw [d2, c2, e2, if_pos hb]
       simp [hr]
      ·rw [d3 h, c3 hb, hs]; push_cast; omega
     ·have hF : F (0, x.n) s = walkR res vs ar d (ctxI vs ar s c) s.body (x.n + 1) := by
       simp only [F, hr, ne_eq, not_true_eq_false, if_false]
       rw [if_pos hb]
      rw [hF]
      obtain ⟨d1, d2⟩ := b2 (by rw [c1]; exact hb)
      refine ⟨d1.trans c1, ?_, fun h => absurd h hb⟩
      simp only [G]
      rw [d2, c2, if_neg hb, if_neg hb]
    ·have hF : F (0, x.n) s = (res s c, x.n) := by simp only [F, ne_eq, not_true_eq_false, if_false]; rw [if_pos hr]
     rw [hF]
     obtain ⟨c1, c2⟩ := a2 (by rw [e1]; exact hr)
     obtain ⟨d1, d2⟩ := b2 (by rw [c1, e1]; exact hr)
     refine ⟨d1.trans (c1.trans e1), ?_, fun h => absurd h hr⟩
     simp only [G]
     rw [d2, c2, e2, if_neg hr, if_pos hr]
  have hF1 : ∀ (y : Int × Int) (s : St1), y.1 ≠ 0 → F y s = y := fun y s h => by simp only [F]; rw [if_pos h]
  have hFn : ∀ (l : List St1) (y : Int × Int), y.1 ≠ 0 → l.foldl F y = y := by
   intro l
   induction l with
   | nil => intro y _; rfl
   | cons a r ih => intro y h; rw [List.foldl_cons, hF1 y a h, ih y h]
  have eG : eachF vs ar (fstStep res) (d + 1) c x l = l.foldl G x := rfl
  have eF : walkR res vs ar (d + 1) c l x.n = l.foldl F (0, x.n) := rfl
  rw [eG, eF]
  clear_value F G
  clear eG eF
  have key : ∀ (l : List St1) (x : Fst), (l.foldl G x).n = x.n + lsize (d + 1) l ∧ (x.code ≠ 0 → (l.foldl G x).code = x.code ∧ (l.foldl G x).at_ = x.at_) ∧
   (x.code = 0 → (l.foldl G x).code = (l.foldl F (0, x.n)).1 ∧ (l.foldl G x).at_ = (if (l.foldl F (0, x.n)).1 = 0 then x.at_ else (l.foldl F (0, x.n)).2) ∧ ((l.foldl F (0, x.n)).1 = 0 → (l.foldl F (0, x.n)).2 = x.n + lsize (d + 1) l)) := by
   intro l
   induction l with
   | nil => intro x; simp [lsize]
   | cons a r ih =>
    intro x
    obtain ⟨h1, h2, h3⟩ := hone a x
    obtain ⟨g1, g2, g3⟩ := ih (G x a)
    have hsz : lsize (d + 1) (a :: r) = tsize (d + 1) a + lsize (d + 1) r := by simp [lsize]
    rw [show (a :: r).foldl G x = r.foldl G (G x a) from rfl, show (a :: r).foldl F (0, x.n) = r.foldl F (F (0, x.n) a) from rfl]
    refine ⟨by rw [g1, h1, hsz]; push_cast; omega, fun hx => ?_, fun hx => ?_⟩
    ·obtain ⟨c1, c2⟩ := h2 hx
     obtain ⟨d1, d2⟩ := g2 (by rw [c1]; exact hx)
     exact ⟨d1.trans c1, d2.trans c2⟩
    ·obtain ⟨c1, c2, c3⟩ := h3 hx
     by_cases hb : (F (0, x.n) a).1 = 0
     ·have e : F (0, x.n) a = (0, (G x a).n) := Prod.ext hb (by rw [c3 hb, h1])
      obtain ⟨d1, d2, d3⟩ := g3 (by rw [c1]; exact hb)
      rw [e]
      refine ⟨d1, by rw [d2, c2, if_pos hb], fun h => by rw [d3 h, h1, hsz]; push_cast; omega⟩
     ·rw [hFn r _ hb]
      obtain ⟨d1, d2⟩ := g2 (by rw [c1]; exact hb)
      refine ⟨d1.trans c1, by rw [d2, c2], fun h => absurd h hb⟩
  exact key l x
def chkR (res : List Int → List Int → St1 → Nat → Int) (p : Pg) : Int × Int :=
 if progOK p = true then ((walkR (res p.vars p.arrays) p.vars p.arrays 5 0 p.body 0).1, if (walkR (res p.vars p.arrays) p.vars p.arrays 5 0 p.body 0).1 = 0 then -1 else (walkR (res p.vars p.arrays) p.vars p.arrays 5 0 p.body 0).2) else (5, -1)
def fineP (res : List Int → List Int → St1 → Nat → Int) (p : Pg) : Bool := progOK p && fineL (res p.vars p.arrays) p.vars p.arrays 5 0 p.body
theorem chk_fine (res : List Int → List Int → St1 → Nat → Int) (p : Pg) : (chkR res p).1 = 0 ↔ fineP res p = true := by
 unfold chkR fineP
 cases h : progOK p with
 | false => simp
 | true => simp only [if_true, Bool.true_and]; exact walk_fine _ _ _ _ _ _ _
def strictR (p : Pg) : Int × Int := if (chkR flowR p).1 ≠ 0 then chkR flowR p else chkR leakR p
theorem walk_congr (r1 r2 r : St1 → Nat → Int) (vs ar : List Int) (hr : ∀ s c, r1 s c = 0 → r s c = r2 s c) : ∀ (d c : Nat) (l : List St1) (n : Int), fineL r1 vs ar d c l = true → walkR r vs ar d c l n = walkR r2 vs ar d c l n
 | 0, _, _, _, _ => rfl
 | d + 1, c, l, n, h => by
  simp only [fineL, List.all_eq_true, Bool.and_eq_true, beq_iff_eq] at h
  simp only [walkR]
  have key : ∀ (l : List St1) (x : Int × Int), (∀ s ∈ l, (r1 s c = 0 ∧ fineL r1 vs ar d (ctxI vs ar s c) s.body = true) ∧ fineL r1 vs ar d (ctxI vs ar s c) s.els = true) →
   l.foldl (fun (x : Int × Int) s => if x.1 ≠ 0 then x else if r s c ≠ 0 then (r s c, x.2) else
   if (walkR r vs ar d (ctxI vs ar s c) s.body (x.2 + 1)).1 ≠ 0 then walkR r vs ar d (ctxI vs ar s c) s.body (x.2 + 1)
   else walkR r vs ar d (ctxI vs ar s c) s.els (walkR r vs ar d (ctxI vs ar s c) s.body (x.2 + 1)).2) x =
    l.foldl (fun (x : Int × Int) s => if x.1 ≠ 0 then x else if r2 s c ≠ 0 then (r2 s c, x.2) else
   if (walkR r2 vs ar d (ctxI vs ar s c) s.body (x.2 + 1)).1 ≠ 0 then walkR r2 vs ar d (ctxI vs ar s c) s.body (x.2 + 1)
   else walkR r2 vs ar d (ctxI vs ar s c) s.els (walkR r2 vs ar d (ctxI vs ar s c) s.body (x.2 + 1)).2) x := by
   intro l
   induction l with
   | nil => intro x _; rfl
   | cons a t ih =>
    intro x hl
    obtain ⟨⟨h1, h2⟩, h3⟩ := hl a (by simp)
    simp only [List.foldl_cons]
    rw [hr a c h1]
    simp only [walk_congr r1 r2 r vs ar hr d (ctxI vs ar a c) a.body _ h2, walk_congr r1 r2 r vs ar hr d (ctxI vs ar a c) a.els _ h3]
    exact ih _ fun s hs => hl s (by simp [hs])
  exact key l (0, n) h
theorem strict_own {p : Pg} (h : fineP flowR p = true) : chkR (ownR true) p = chkR leakR p := by
 simp only [fineP, Bool.and_eq_true] at h
 unfold chkR
 rw [if_pos h.1, if_pos h.1]
 rw [walk_congr (flowR p.vars p.arrays) (leakR p.vars p.arrays) (ownR true p.vars p.arrays) p.vars p.arrays (fun s c h => by simp [ownR, h]) 5 0 p.body 0 h.2]
theorem own_flow (p : Pg) : chkR (ownR false) p = chkR flowR p := by
 have : (ownR false) = flowR := by
  funext vs ar s c
  simp only [ownR]
  split
  ·rfl
  ·rename_i h; simp only [ne_eq, Classical.not_not] at h; simp [h]
 rw [this]
end Go.Proofs.YtpphageokplgoaaGreat.CtR
namespace Go.Proofs.YtpphageokplgoaaGreat.CtR
open Go Go.CT CtF
structure LowM (β : Nat) (p : Pg) (m m' : Mm) : Prop where
 lv : m.vals.length = m'.vals.length
 la : m.arrays.length = m'.arrays.length
 val : ∀ (i : Nat) (x : Int), p.vars[i]? = some x → x.toNat.testBit β = false → m.vals[i]? = m'.vals[i]?
 arr : ∀ (i : Nat) (x : Int), p.arrays[i]? = some x → x.toNat.testBit β = false → m.arrays[i]? = m'.arrays[i]?
theorem LowM.refl (β : Nat) (p : Pg) (m : Mm) : LowM β p m m := ⟨rfl, rfl, fun _ _ _ _ => rfl, fun _ _ _ _ => rfl⟩
theorem LowM.symm {β : Nat} {p : Pg} {m m' : Mm} (h : LowM β p m m') : LowM β p m' m := ⟨h.lv.symm, h.la.symm, fun i x a b => (h.val i x a b).symm, fun i x a b => (h.arr i x a b).symm⟩
theorem LowM.trans {β : Nat} {p : Pg} {a b c : Mm} (h : LowM β p a b) (h' : LowM β p b c) : LowM β p a c :=
 ⟨h.lv.trans h'.lv, h.la.trans h'.la, fun i x u v => (h.val i x u v).trans (h'.val i x u v), fun i x u v => (h.arr i x u v).trans (h'.arr i x u v)⟩
theorem or_bit {β : Nat} : ∀ (l : List Nat) (a : Nat), (l.foldl (fun a b => a ||| b) a).testBit β = false ↔ a.testBit β = false ∧ ∀ x ∈ l, x.testBit β = false
 | [], a => by simp
 | b :: r, a => by rw [List.foldl_cons, or_bit r, Nat.testBit_or]; simp [and_assoc]
theorem nth_get {l : List Int} {v : Int} (h : 0 ≤ v) (h2 : v < l.length) : l[v.toNat]? = some (nth l v) := (nth_mem h h2).1
theorem nth_eq {l l' : List Int} {v : Int} (h : l[v.toNat]? = l'[v.toNat]?) : nth l v = nth l' v := by
 unfold nth; rw [List.getD_eq_getElem?_getD, List.getD_eq_getElem?_getD, h]
theorem arrAt_eq {m m' : Mm} {v : Int} (h : m.arrays[v.toNat]? = m'.arrays[v.toNat]?) : arrAt m v = arrAt m' v := by
 unfold arrAt; rw [List.getD_eq_getElem?_getD, List.getD_eq_getElem?_getD, h]
theorem evalE_low {β : Nat} {p : Pg} {m m' : Mm} (h : LowM β p m m') : ∀ (d : Nat) (e : Ex), shape p d e = true → (labN p.vars p.arrays d e).testBit β = false → evalE m d e = evalE m' d e
 | 0, _, _, _ => rfl
 | d + 1, .mk k v ks, hs, hb => by
  obtain ⟨g1, g2, g3⟩ := shape_succ hs
  obtain ⟨_, _, hv0, hv1⟩ := fits_len g1
  simp only [labN, or_bit, List.mem_map] at hb
  have hk : ∀ e ∈ ks, evalE m d e = evalE m' d e := fun e he => evalE_low h d e (g2 e he) (hb.2 _ ⟨e, he, rfl⟩)
  have hxs : (ks.map fun e => (evalE m d e).1) = ks.map fun e => (evalE m' d e).1 := List.map_congr_left fun e he => by rw [hk e he]
  have hev : (ks.map fun e => (evalE m d e).2) = ks.map fun e => (evalE m' d e).2 := List.map_congr_left fun e he => by rw [hk e he]
  simp only [evalE, hxs, hev]
  by_cases k2 : k = 2
  ·subst k2
   have hx := nth_get (l := p.vars) hv0 (by simpa [limit] using hv1)
   have := nth_eq (h.val _ _ hx (by have := hb.1; simpa [labB] using this))
   simp [this]
  ·by_cases k3 : k = 3
   ·subst k3
    have hx := nth_get (l := p.arrays) hv0 (by simpa [limit] using hv1)
    have := arrAt_eq (h.arr _ _ hx (by have := hb.1; simpa [labB] using this))
    simp [this]
   ·simp [k2, k3]
theorem LowM.setV {β : Nat} {p : Pg} {m m' : Mm} (h : LowM β p m m') {t x y : Int} (hx : x = y ∨ (nth p.vars t).toNat.testBit β = true) : LowM β p (setV m t x) (setV m' t y) where
 lv := by simp [CtR.setV, h.lv]
 la := h.la
 val := fun i z hz hb => by
  simp only [CtR.setV, List.getElem?_set, h.lv]
  by_cases e : t.toNat = i
  ·subst e
   rcases hx with rfl | hx
   ·simp [h.val _ z hz hb]
   ·have : nth p.vars t = z := by unfold nth; rw [List.getD_eq_getElem?_getD, hz]; rfl
    rw [this, hb] at hx
    cases hx
  ·simp only [e, if_false]; exact h.val i z hz hb
 arr := h.arr
theorem LowM.setV1 {β : Nat} {p : Pg} {m m' : Mm} (h : LowM β p m m') {t y : Int} (hx : (nth p.vars t).toNat.testBit β = true) : LowM β p m (CtR.setV m' t y) where
 lv := by simp [CtR.setV, h.lv]
 la := h.la
 val := fun i z hz hb => by
  simp only [CtR.setV, List.getElem?_set]
  by_cases e : t.toNat = i
  ·subst e
   have : nth p.vars t = z := by unfold nth; rw [List.getD_eq_getElem?_getD, hz]; rfl
   rw [this, hb] at hx
   cases hx
  ·simp only [e, if_false]; exact h.val i z hz hb
 arr := h.arr
theorem LowM.setA {β : Nat} {p : Pg} {m m' : Mm} (h : LowM β p m m') {t i j x y : Int} (hx : (i = j ∧ x = y) ∨ (nth p.arrays t).toNat.testBit β = true) : LowM β p (setA m t i x) (setA m' t j y) where
 lv := h.lv
 la := by simp [CtR.setA, h.la]
 val := h.val
 arr := fun k z hz hb => by
  simp only [CtR.setA, List.getElem?_set, h.la]
  by_cases e : t.toNat = k
  ·subst e
   rcases hx with ⟨rfl, rfl⟩ | hx
   ·rw [arrAt_eq (h.arr _ z hz hb), h.arr _ z hz hb]
   ·have : nth p.arrays t = z := by unfold nth; rw [List.getD_eq_getElem?_getD, hz]; rfl
    rw [this, hb] at hx
    cases hx
  ·simp only [e, if_false]; exact h.arr k z hz hb
theorem LowM.setA1 {β : Nat} {p : Pg} {m m' : Mm} (h : LowM β p m m') {t j y : Int} (hx : (nth p.arrays t).toNat.testBit β = true) : LowM β p m (CtR.setA m' t j y) where
 lv := h.lv
 la := by simp [CtR.setA, h.la]
 val := h.val
 arr := fun k z hz hb => by
  simp only [CtR.setA, List.getElem?_set]
  by_cases e : t.toNat = k
  ·subst e
   have : nth p.arrays t = z := by unfold nth; rw [List.getD_eq_getElem?_getD, hz]; rfl
   rw [this, hb] at hx
   cases hx
  ·simp only [e, if_false]; exact h.arr k z hz hb
def freeL : Nat → List St1 → Bool
 | 0, _ => true
 | d + 1, l => l.all fun s => s.kind != 5 && freeL d s.body && freeL d s.els
theorem subL_bit {a b β : Nat} (h : subL a b = true) (ha : a.testBit β = true) : b.testBit β = true := by
 have h : a ||| b = b := by simpa [subL] using h
 rw [← h, Nat.testBit_or, ha]; rfl
theorem runS_4 (d : Nat) (m : Mm) (t : Int) (ix v : Ex) (c : Int) (b e : List St1) : runS (d + 1) m (.mk 4 t ix v c b e) = iterR (fun m => foldR (runS d) m b) c.toNat m := by simp [runS]
theorem runS_1 (d : Nat) (m : Mm) (t : Int) (ix v : Ex) (c : Int) (b e : List St1) : runS (d + 1) m (.mk 1 t ix v c b e) = (setV m t (evalE m 5 v).1, (evalE m 5 v).2) := by simp [runS]
theorem runS_5 (d : Nat) (m : Mm) (t : Int) (ix v : Ex) (c : Int) (b e : List St1) : runS (d + 1) m (.mk 5 t ix v c b e) = (setV m t (evalE m 5 v).1, (evalE m 5 v).2 ++ [⟨4, (evalE m 5 v).1⟩]) := by simp [runS]
theorem runS_2 (d : Nat) (m : Mm) (t : Int) (ix v : Ex) (c : Int) (b e : List St1) : runS (d + 1) m (.mk 2 t ix v c b e) = (setA m t ((evalE m 5 ix).1 % 4) (evalE m 5 v).1, (evalE m 5 v).2 ++ [⟨3, t * 4 + (evalE m 5 ix).1 % 4⟩]) := by simp [runS]
theorem runS_if {d : Nat} {m : Mm} {k t : Int} {ix v : Ex} {c : Int} {b e : List St1} (h4 : k ≠ 4) (h1 : k ≠ 1) (h5 : k ≠ 5) (h2 : k ≠ 2) :
 ((evalE m 5 v).1 ≠ 0 → runS (d + 1) m (.mk k t ix v c b e) = ((foldR (runS d) m b).1, (evalE m 5 v).2 ++ [⟨1, 1⟩] ++ (foldR (runS d) m b).2)) ∧
 ((evalE m 5 v).1 = 0 → runS (d + 1) m (.mk k t ix v c b e) = ((foldR (runS d) m e).1, (evalE m 5 v).2 ++ [⟨1, 0⟩] ++ (foldR (runS d) m e).2)) := by
 constructor <;> intro h <;> simp [runS, h4, h1, h5, h2, h]
theorem foldR_conf {f : Mm → St1 → Mm × List Ev} {Q : Mm → Prop} : ∀ (l : List St1) (m : Mm), Q m → (∀ s ∈ l, ∀ m, Q m → Q (f m s).1) → Q (foldR f m l).1
 | [], _, h, _ => h
 | s :: r, m, h, hf => foldR_conf r _ (hf s (by simp) m h) fun t ht => hf t (by simp [ht])
theorem iterR_conf {f : Mm → Mm × List Ev} {Q : Mm → Prop} (hf : ∀ m, Q m → Q (f m).1) : ∀ (n : Nat) (m : Mm), Q m → Q (iterR f n m).1
 | 0, _, h => h
 | n + 1, m, h => hf _ (iterR_conf hf n m h)
theorem flow_assign {vs ar : List Int} {s : St1} {c : Nat} (h : flowR vs ar s c = 0) (hk : s.kind = 1) : subL (storedN vs ar s c) (nth vs s.target).toNat = true := by
 unfold flowR at h
 rw [if_pos hk] at h
 cases hs : subL (storedN vs ar s c) (nth vs s.target).toNat with
 | true => rfl
 | false => rw [hs] at h; simp at h
theorem flow_store {vs ar : List Int} {s : St1} {c : Nat} (h : flowR vs ar s c = 0) (hk : s.kind = 2) : subL (storedN vs ar s c) (nth ar s.target).toNat = true := by
 unfold flowR at h
 rw [if_neg (by omega), if_pos hk] at h
 cases hs : subL (storedN vs ar s c) (nth ar s.target).toNat with
 | true => rfl
 | false => rw [hs] at h; simp at h
theorem stored_c {β : Nat} {vs ar : List Int} {s : St1} {c : Nat} (h : c.testBit β = true) : (storedN vs ar s c).testBit β = true := by
 unfold storedN; split <;> simp [Nat.testBit_or, h]
theorem stored_v {β : Nat} {vs ar : List Int} {s : St1} {c : Nat} (h : (labN vs ar 5 s.value).testBit β = true) : (storedN vs ar s c).testBit β = true := by
 unfold storedN; split <;> simp [Nat.testBit_or, h]
theorem stored_i {β : Nat} {vs ar : List Int} {s : St1} {c : Nat} (hk : s.kind = 2) (h : (labN vs ar 5 s.index).testBit β = true) : (storedN vs ar s c).testBit β = true := by
 unfold storedN; rw [if_pos hk]; simp [Nat.testBit_or, h]
theorem run_conf {β : Nat} {p : Pg} {m0 : Mm} : ∀ (d c : Nat) (l : List St1), fineL (flowR p.vars p.arrays) p.vars p.arrays d c l = true → freeL d l = true → c.testBit β = true → ∀ m, LowM β p m0 m → LowM β p m0 (foldR (runS d) m l).1
 | 0, c, l, _, _, _, m, h => by
  refine foldR_conf (Q := LowM β p m0) l m h fun s _ m h => ?_
  exact h
 | d + 1, c, l, hf, hr, hc, m, h => by
  refine foldR_conf (Q := LowM β p m0) l m h fun s hs m h => ?_
  simp only [fineL, freeL, List.all_eq_true, Bool.and_eq_true, beq_iff_eq, bne_iff_ne] at hf hr
  obtain ⟨⟨f1, f2⟩, f3⟩ := hf s hs
  obtain ⟨⟨r1, r2⟩, r3⟩ := hr s hs
  have hci : (ctxI p.vars p.arrays s c).testBit β = true := by
   unfold ctxI; split
   ·rw [Nat.testBit_or, hc]; rfl
   ·exact hc
  have hst := stored_c (vs := p.vars) (ar := p.arrays) (s := s) hc
  have hb := fun m h => run_conf (β := β) (m0 := m0) d _ s.body f2 r2 hci m h
  have he := fun m h => run_conf (β := β) (m0 := m0) d _ s.els f3 r3 hci m h
  have h1 := fun hk => subL_bit (flow_assign f1 hk) hst
  have h2 := fun hk => subL_bit (flow_store f1 hk) hst
  obtain ⟨k, t, ix, v, cc, b, e⟩ := s
  simp only [St1.kind, St1.target, St1.body, St1.els] at r1 hb he h1 h2
  by_cases k4 : k = 4
  ·subst k4; rw [runS_4]; exact iterR_conf (Q := LowM β p m0) (fun m h => hb m h) _ m h
  by_cases k1 : k = 1
  ·subst k1; rw [runS_1]; exact h.setV1 (h1 rfl)
  by_cases k2 : k = 2
  ·subst k2; rw [runS_2]; exact h.setA1 (h2 rfl)
  have hi := runS_if (d := d) (m := m) (t := t) (ix := ix) (v := v) (c := cc) (b := b) (e := e) k4 k1 r1 k2
  by_cases hv : (evalE m 5 v).1 = 0
  ·rw [hi.2 hv]; exact he m h
  ·rw [hi.1 hv]; exact hb m h
theorem foldR_two {f : Mm → St1 → Mm × List Ev} {Q : Mm → Mm → Prop} : ∀ (l : List St1) (m m' : Mm), Q m m' → (∀ s ∈ l, ∀ m m', Q m m' → Q (f m s).1 (f m' s).1) → Q (foldR f m l).1 (foldR f m' l).1
 | [], _, _, h, _ => h
 | s :: r, m, m', h, hf => foldR_two r _ _ (hf s (by simp) m m' h) fun t ht => hf t (by simp [ht])
theorem iterR_two {f : Mm → Mm × List Ev} {Q : Mm → Mm → Prop} (hf : ∀ m m', Q m m' → Q (f m).1 (f m').1) : ∀ (n : Nat) (m m' : Mm), Q m m' → Q (iterR f n m).1 (iterR f n m').1
 | 0, _, _, h => h
 | n + 1, m, m', h => hf _ _ (iterR_two hf n m m' h)
theorem shapeV {p : Pg} {d : Nat} {k t : Int} {ix v : Ex} {c : Int} {b e : List St1} (h : stmtOK p (d + 1) (.mk k t ix v c b e) = true) : (k ≠ 4 → shape p 5 v = true) ∧ (k = 2 → shape p 5 ix = true) := by
 have hk := head_kind (stmtOK_succ h).1
 constructor
 ·intro h4
  rcases hk with h | h | h | h
  ·exact (right_shape h.2.2.2).1
  ·exact (right_shape h.2.2.2.2.2).1
  ·exact (right_shape h.2).1
  ·exact absurd h.1 h4
 ·intro h2
  rcases hk with h | h | h | h
  ·exact absurd h.1 (by omega)
  ·exact (right_shape h.2.2.2.1).1
  ·exact absurd h.1 (by omega)
  ·exact absurd h.1 (by omega)
theorem run_low {β : Nat} {p : Pg} : ∀ (d c : Nat) (l : List St1), (∀ s ∈ l, stmtOK p d s = true) → fineL (flowR p.vars p.arrays) p.vars p.arrays d c l = true → freeL d l = true → ∀ m m', LowM β p m m' → LowM β p (foldR (runS d) m l).1 (foldR (runS d) m' l).1
 | 0, c, l, _, _, _, m, m', h => foldR_two (Q := LowM β p) l m m' h fun s _ m m' h => h
 | d + 1, c, l, hok, hf, hr, m, m', h => by
  refine foldR_two (Q := LowM β p) l m m' h fun s hs m m' h => ?_
  simp only [fineL, freeL, List.all_eq_true, Bool.and_eq_true, beq_iff_eq, bne_iff_ne] at hf hr
  obtain ⟨⟨f1, f2⟩, f3⟩ := hf s hs
  obtain ⟨⟨r1, r2⟩, r3⟩ := hr s hs
  have hso := hok s hs
  have h1 := fun hk => flow_assign f1 hk
  have h2 := fun hk => flow_store f1 hk
  have hsv := fun h => stored_v (β := β) (vs := p.vars) (ar := p.arrays) (s := s) (c := c) h
  have hsi := fun hk h => stored_i (β := β) (vs := p.vars) (ar := p.arrays) (s := s) (c := c) hk h
  generalize storedN p.vars p.arrays s c = sto at *
  obtain ⟨k, t, ix, v, cc, b, e⟩ := s
  have hbo := stmtOK_succ hso
  obtain ⟨s1, s2⟩ := shapeV hso
  have hb := fun m m' h => run_low (β := β) d _ b hbo.2.1 f2 r2 m m' h
  have he := fun m m' h => run_low (β := β) d _ e hbo.2.2 f3 r3 m m' h
  simp only [St1.kind, St1.target, St1.body, St1.els, St1.value, St1.index] at r1 h1 h2 f2 f3 hsv hsi
  have r1 : k ≠ 5 := r1
  by_cases k4 : k = 4
  ·subst k4; rw [runS_4, runS_4]; exact iterR_two (Q := LowM β p) (fun m m' h => hb m m' h) _ m m' h
  have hv := fun hb => evalE_low (β := β) h 5 v (s1 k4) hb
  by_cases k1 : k = 1
  ·subst k1; rw [runS_1, runS_1]
   refine h.setV ?_
   cases hl : (labN p.vars p.arrays 5 v).testBit β with
   | false => exact .inl (by rw [hv hl])
   | true => exact .inr (subL_bit (h1 rfl) (hsv hl))
  by_cases k2 : k = 2
  ·subst k2; rw [runS_2, runS_2]
   refine h.setA ?_
   cases hl : (labN p.vars p.arrays 5 v).testBit β with
   | true => exact .inr (subL_bit (h2 rfl) (hsv hl))
   | false =>
    cases hli : (labN p.vars p.arrays 5 ix).testBit β with
    | true => exact .inr (subL_bit (h2 rfl) (hsi rfl hli))
    | false => exact .inl ⟨by rw [evalE_low h 5 ix (s2 rfl) hli], by rw [hv hl]⟩
  have k3 : k = 3 := by
   have := head_kind hbo.1
   omega
  have hi := fun m => runS_if (d := d) (m := m) (t := t) (ix := ix) (v := v) (c := cc) (b := b) (e := e) k4 k1 r1 k2
  subst k3
  cases hl : (labN p.vars p.arrays 5 v).testBit β with
  | false =>
   by_cases hz : (evalE m 5 v).1 = 0
   ·rw [(hi m).2 hz, (hi m').2 (by rw [← hv hl]; exact hz)]; exact he m m' h
   ·rw [(hi m).1 hz, (hi m').1 (by rw [← hv hl]; exact hz)]; exact hb m m' h
  | true =>
   have hci : (ctxI p.vars p.arrays (.mk 3 t ix v cc b e) c).testBit β = true := by
    have : ctxI p.vars p.arrays (.mk 3 t ix v cc b e) c = c ||| labN p.vars p.arrays 5 v := rfl
    rw [this, Nat.testBit_or, hl]; simp
   have side : ∀ (m : Mm), LowM β p m (runS (d + 1) m (.mk 3 t ix v cc b e)).1 := fun m => by
    by_cases hz : (evalE m 5 v).1 = 0
    ·rw [(hi m).2 hz]; exact run_conf (β := β) (m0 := m) d _ e f3 r3 hci m (.refl _ _ _)
    ·rw [(hi m).1 hz]; exact run_conf (β := β) (m0 := m) d _ b f2 r2 hci m (.refl _ _ _)
   exact ((side m).symm.trans h).trans (side m')
end Go.Proofs.YtpphageokplgoaaGreat.CtR
namespace Go.Proofs.YtpphageokplgoaaGreat.CtR
open Go Go.CT CtF
def DivT (t t' : List Ev) : Prop := ∃ (pre : List Ev) (v v' : Int) (r r' : List Ev), v ≠ v' ∧ t = pre ++ ⟨4, v⟩ :: r ∧ t' = pre ++ ⟨4, v'⟩ :: r'
theorem DivT.app {t t' : List Ev} (h : DivT t t') (a b : List Ev) : DivT (t ++ a) (t' ++ b) := by
 obtain ⟨pre, v, v', r, r', h1, rfl, rfl⟩ := h
 exact ⟨pre, v, v', r ++ a, r' ++ b, h1, by simp, by simp⟩
theorem DivT.pre {t t' : List Ev} (h : DivT t t') (a : List Ev) : DivT (a ++ t) (a ++ t') := by
 obtain ⟨pre, v, v', r, r', h1, rfl, rfl⟩ := h
 exact ⟨a ++ pre, v, v', r, r', h1, by simp, by simp⟩
def ResT (p : Pg) (x x' : Mm × List Ev) : Prop := (LowM 0 p x.1 x'.1 ∧ x.2 = x'.2) ∨ DivT x.2 x'.2
theorem ResT.seq {p : Pg} {x x' y y' : Mm × List Ev} (h : ResT p x x') (h2 : LowM 0 p x.1 x'.1 → ResT p y y') : ResT p (y.1, x.2 ++ y.2) (y'.1, x'.2 ++ y'.2) := by
 rcases h with ⟨h, e⟩ | h
 ·rcases h2 h with ⟨g, e2⟩ | g
  ·exact .inl ⟨g, by simp only [e, e2]⟩
  ·exact .inr (by simp only [e]; exact g.pre _)
 ·exact .inr (h.app _ _)
theorem leak_spec {vs ar : List Int} {s : St1} {c : Nat} (h : leakR vs ar s c = 0) : (s.kind = 3 → secL (labN vs ar 5 s.value) = false) ∧ (s.kind = 2 → secL (labN vs ar 5 s.index) = false) ∧ secE vs ar 5 s.value = false := by
 unfold leakR at h
 by_cases h1 : s.kind = 3 ∧ secL (labN vs ar 5 s.value) = true
 ·rw [if_pos h1] at h; omega
 ·rw [if_neg h1] at h
  by_cases h2 : (s.kind = 2 ∧ secL (labN vs ar 5 s.index) = true) ∨ secE vs ar 5 s.value = true
  ·rw [if_pos h2] at h; omega
  ·simp only [not_or, not_and, Bool.not_eq_true] at h1 h2
   exact ⟨h1, h2.1, h2.2⟩
end Go.Proofs.YtpphageokplgoaaGreat.CtR
namespace Go.Proofs.YtpphageokplgoaaGreat.CtR
open Go Go.CT CtF
theorem le3 {a : Nat} (h : a ≤ 3) : a = 0 ∨ a = 1 ∨ a = 2 ∨ a = 3 := by omega
theorem subI (a b : Nat) (ha : a ≤ 3) (hb : b ≤ 3) : decide (((a ||| b : Nat) : Int) = (b : Int)) = subL a b := by
 rcases le3 ha with rfl | rfl | rfl | rfl <;> rcases le3 hb with rfl | rfl | rfl | rfl <;> decide
theorem subA (a b : Nat) (ha : a ≤ 3) (hb : b ≤ 3) : decide (((a ^^^ (a &&& b) : Nat) : Int) = 0) = subL a b := by
 rcases le3 ha with rfl | rfl | rfl | rfl <;> rcases le3 hb with rfl | rfl | rfl | rfl <;> decide
theorem secI (a : Nat) (ha : a ≤ 3) : decide (((a &&& 1 : Nat) : Int) = 1) = secL a := by
 rcases le3 ha with rfl | rfl | rfl | rfl <;> decide
theorem secI' (a : Nat) (ha : a ≤ 3) : decide (((a &&& 1 : Nat) : Int) ≠ 0) = secL a := by
 rcases le3 ha with rfl | rfl | rfl | rfl <;> decide
theorem truI (a : Nat) (ha : a ≤ 3) : decide (((a &&& 2 : Nat) : Int) = 0) = trustL a := by
 rcases le3 ha with rfl | rfl | rfl | rfl <;> decide
theorem labelFlowsS (a b : Nat) (ha : a ≤ 3) (hb : b ≤ 3) : DC Tryz.prog 204 [DI .i64 a, DI .i64 b] [] (fun r h => r = DB (subL a b) ∧ h = []) := by
 have h1 := labelValidS a
 have h2 := labelValidS b
 have ha' : (decide (0 ≤ (a : Int)) && decide ((a : Int) ≤ 3)) = true := by simp; omega
 have hb' : (decide (0 ≤ (b : Int)) && decide ((b : Int) ≤ 3)) = true := by simp; omega
 rw [ha'] at h1
 rw [hb'] at h2
 have hs := subI a b ha hb
 generalize hR : (fun (r : D) (h : List (Option (List C))) => r = DB (subL a b) ∧ h = []) = R
 refine dcZ Tryz.func204 ?_
 simp (maxSteps := 9999999) only [go_sem]
 iterate 6 ((try (refine drvZ Tryz.func204 ?_; simp (maxSteps := 9999999) only [go_sem])); (try ((with_reducible refine And.intro ?_ ?_) <;> (repeat' with_reducible apply And.intro) <;> try exact sd)); (try first | refine XK.p h1 ok147 ?_ | refine XK.gp h1 ok147 ?_ | refine XK.p h2 ok147 ?_ | refine XK.gp h2 ok147 ?_))
 refine RetOb.plain (d := DB _) ?_ rfl
 rw [← hR, ← hs]
 exact ⟨rfl, rfl⟩
theorem labelSecretS (a : Nat) (ha : a ≤ 3) : DC Tryz.prog 129 [DI .i64 a] [] (fun r h => r = DB (secL a) ∧ h = []) := by
 have h1 := labelValidS a
 have ha' : (decide (0 ≤ (a : Int)) && decide ((a : Int) ≤ 3)) = true := by simp; omega
 rw [ha'] at h1
 have hs := secI a ha
 generalize hR : (fun (r : D) (h : List (Option (List C))) => r = DB (secL a) ∧ h = []) = R
 refine dcZ Tryz.func129 ?_
 simp (maxSteps := 9999999) only [go_sem]
 iterate 4 ((try (refine drvZ Tryz.func129 ?_; simp (maxSteps := 9999999) only [go_sem])); (try ((with_reducible refine And.intro ?_ ?_) <;> (repeat' with_reducible apply And.intro) <;> try exact sd)); (try first | refine XK.p h1 ok147 ?_ | refine XK.gp h1 ok147 ?_))
 refine RetOb.plain (d := DB _) ?_ rfl
 rw [← hR, ← hs]
 exact ⟨rfl, rfl⟩
theorem labelTrustedS (a : Nat) (ha : a ≤ 3) : DC Tryz.prog 205 [DI .i64 a] [] (fun r h => r = DB (trustL a) ∧ h = []) := by
 have h1 := labelValidS a
 have ha' : (decide (0 ≤ (a : Int)) && decide ((a : Int) ≤ 3)) = true := by simp; omega
 rw [ha'] at h1
 have hs := truI a ha
 generalize hR : (fun (r : D) (h : List (Option (List C))) => r = DB (trustL a) ∧ h = []) = R
 refine dcZ Tryz.func205 ?_
 simp (maxSteps := 9999999) only [go_sem]
 iterate 4 ((try (refine drvZ Tryz.func205 ?_; simp (maxSteps := 9999999) only [go_sem])); (try ((with_reducible refine And.intro ?_ ?_) <;> (repeat' with_reducible apply And.intro) <;> try exact sd)); (try first | refine XK.p h1 ok147 ?_ | refine XK.gp h1 ok147 ?_))
 refine RetOb.plain (d := DB _) ?_ rfl
 rw [← hR, ← hs]
 exact ⟨rfl, rfl⟩
theorem flowsI (a b : Nat) (ha : a ≤ 3) (hb : b ≤ 3) : DC Tryz.prog 161 [DI .i64 a, DI .i64 b] [] (fun r h => r = DB (subL a b) ∧ h = []) := by
 have hs := subA a b ha hb
 generalize hR : (fun (r : D) (h : List (Option (List C))) => r = DB (subL a b) ∧ h = []) = R
 refine dcZ Tryz.func161 ?_
 simp (maxSteps := 9999999) only [go_sem]
 iterate 2 ((try (refine drvZ Tryz.func161 ?_; simp (maxSteps := 9999999) only [go_sem])); (try ((with_reducible refine And.intro ?_ ?_) <;> (repeat' with_reducible apply And.intro) <;> try exact sd)))
 refine RetOb.plain (d := DB _) ?_ rfl
 rw [← hR, ← hs]
 exact ⟨rfl, rfl⟩
theorem labelTrustedI (a : Nat) (ha : a ≤ 3) : DC Tryz.prog 163 [DI .i64 a] [] (fun r h => r = DB (trustL a) ∧ h = []) := by
 have h1 := labelValidI a
 have ha' : (decide (0 ≤ (a : Int)) && decide ((a : Int) ≤ 3)) = true := by simp; omega
 rw [ha'] at h1
 have hs := truI a ha
 generalize hR : (fun (r : D) (h : List (Option (List C))) => r = DB (trustL a) ∧ h = []) = R
 refine dcZ Tryz.func163 ?_
 simp (maxSteps := 9999999) only [go_sem]
 iterate 4 ((try (refine drvZ Tryz.func163 ?_; simp (maxSteps := 9999999) only [go_sem])); (try ((with_reducible refine And.intro ?_ ?_) <;> (repeat' with_reducible apply And.intro) <;> try exact sd)); (try first | refine XK.p h1 ok153 ?_ | refine XK.gp h1 ok153 ?_))
 refine RetOb.plain (d := DB _) ?_ rfl
 rw [← hR, ← hs]
 exact ⟨rfl, rfl⟩
theorem labelSecretI (a : Nat) (ha : a ≤ 3) : DC Tryz.prog 134 [DI .i64 a] [] (fun r h => r = DB (secL a) ∧ h = []) := by
 have h1 := labelValidI a
 have ha' : (decide (0 ≤ (a : Int)) && decide ((a : Int) ≤ 3)) = true := by simp; omega
 rw [ha'] at h1
 have hs := secI' a ha
 generalize hR : (fun (r : D) (h : List (Option (List C))) => r = DB (secL a) ∧ h = []) = R
 refine dcZ Tryz.func134 ?_
 simp (maxSteps := 9999999) only [go_sem]
 iterate 4 ((try (refine drvZ Tryz.func134 ?_; simp (maxSteps := 9999999) only [go_sem])); (try ((with_reducible refine And.intro ?_ ?_) <;> (repeat' with_reducible apply And.intro) <;> try exact sd)); (try first | refine XK.p h1 ok153 ?_ | refine XK.gp h1 ok153 ?_))
 refine RetOb.plain (d := DB _) ?_ rfl
 rw [← hR, ← hs]
 refine ⟨?_, rfl⟩
 rcases le3 ha with rfl | rfl | rfl | rfl <;> rfl
end Go.Proofs.YtpphageokplgoaaGreat.CtR
