/- Contracts of functions of the program, one behind the other, as plain data: what each call returns and which blocks it leaves. -/
import Derived.Test.YtajamdnbncploaaFacts
import Derived.Test.YtajamdnbncploaaVa
import Derived.Test.YtajamdnbncploaaVb
import Derived.Test.YtajamdnbncploaaVc
import Derived.Test.YtajamdnbncploaaRa
import Derived.Test.YtajamdnbncploaaRb
import Derived.Test.YtajamdnbncploaaRc
import Derived.Test.YtajamdnbncploaaCtD
import Derived.Test.YtajamdnbncploaaDa
import Derived.Test.YtajamdnbncploaaDb
import Derived.Test.YtajamdnbncploaaDc
import Derived.Test.YtajamdnbncploaaLa
set_option linter.unusedVariables false
set_option linter.unusedSimpArgs false
namespace Go.Proofs.Ytajamdnbncploaa.CtR
open Go Go.CT CtF

theorem shape_bd (vs ar : List Int) (b1 b2 : List St1) : ∀ (d : Nat) (e : Ex), shape ⟨vs, ar, b1⟩ d e = shape ⟨vs, ar, b2⟩ d e
  | 0, _ => rfl
  | d + 1, .mk k v ks => by
    have h : shape ⟨vs, ar, b1⟩ d = shape ⟨vs, ar, b2⟩ d := funext (shape_bd vs ar b1 b2 d)
    simp only [shape, h]
    rfl
theorem right_bd (vs ar : List Int) (b1 b2 : List St1) (e : Ex) : right ⟨vs, ar, b1⟩ e = right ⟨vs, ar, b2⟩ e := by simp only [right, shape_bd vs ar b1 b2]
theorem stmtOK_bd (vs ar : List Int) (b1 b2 : List St1) : ∀ (d : Nat) (s : St1), stmtOK ⟨vs, ar, b1⟩ d s = stmtOK ⟨vs, ar, b2⟩ d s
  | 0, _ => rfl
  | d + 1, .mk k t ix v c b e => by
    have h : stmtOK ⟨vs, ar, b1⟩ d = stmtOK ⟨vs, ar, b2⟩ d := funext (stmtOK_bd vs ar b1 b2 d)
    simp only [stmtOK, headOK, right_bd vs ar b1 b2, h]
theorem foldR_congr {f g : Mm → St1 → Mm × List Ev} : ∀ (l : List St1) (m : Mm), (∀ s ∈ l, ∀ m, f m s = g m s) → foldR f m l = foldR g m l
  | [], _, _ => rfl
  | a :: r, m, h => by
    simp only [foldR, h a (by simp), foldR_congr r _ fun s hs => h s (by simp [hs])]
/-- A statement that fits in d levels runs the same with one more. -/
theorem runS_more {p : Pg} : ∀ (d : Nat) (m : Mm) (s : St1), stmtOK p d s = true → runS (d + 1) m s = runS d m s
  | 0, _, s, h => by simp [stmtOK] at h
  | d + 1, m, .mk k t ix v c b e, h => by
    obtain ⟨_, hb, he⟩ := stmtOK_succ h
    have fb : ∀ m, foldR (runS (d + 1)) m b = foldR (runS d) m b := fun m => foldR_congr b m fun s hs m => runS_more d m s (hb s hs)
    have fe : ∀ m, foldR (runS (d + 1)) m e = foldR (runS d) m e := fun m => foldR_congr e m fun s hs m => runS_more d m s (he s hs)
    rw [runS, runS]
    simp only [fb, fe]
theorem runL_more {p : Pg} {d : Nat} {m : Mm} {l : List St1} (h : ∀ s ∈ l, stmtOK p d s = true) : runL (d + 1) m l = runL d m l :=
  foldR_congr l m fun s hs m => runS_more d m s (h s hs)
theorem memOK_of {p : Pg} {m : Mm} (h : MemFits p m) : memOK p.vars p.arrays m = true := by
  simp only [memOK, vals01, arrOK, Bool.and_eq_true, decide_eq_true_eq, List.all_eq_true]
  refine ⟨⟨⟨by rw [h.nv], by rw [h.na]⟩, fun x hx => h.val x hx⟩, fun a ha => ⟨by have := (h.arr a ha).1; omega, fun x hx => (h.arr a ha).2 x hx⟩⟩
theorem runP_of {p : Pg} {m : Mm} (h1 : progOK p = true) (h2 : memOK p.vars p.arrays m = true) : runP p m = ((runL 5 m p.body).1, (runL 5 m p.body).2, true) := runP_true (by rw [h1, h2]; rfl)
theorem runP_ok {p : Pg} {m : Mm} (h : (runP p m).2.2 = true) : progOK p = true ∧ memOK p.vars p.arrays m = true := by
  cases hq : (progOK p && memOK p.vars p.arrays m) with
  | false => rw [runP_false hq] at h; cases h
  | true => simpa only [Bool.and_eq_true] using hq
theorem runP_out {p : Pg} {m : Mm} (h1 : progOK p = true) (h2 : memOK p.vars p.arrays m = true) : memOK p.vars p.arrays (runL 5 m p.body).1 = true :=
  memOK_of (runL_ok (memFits_of (by rw [h1, h2]; rfl)) (body_of h1).1).1
theorem lsize_app (d : Nat) (a b : List St1) : lsize d (a ++ b) = lsize d a + lsize d b := by simp [lsize]
theorem progOK_sub {vs ar : List Int} {bd b2 : List St1} (h : progOK ⟨vs, ar, bd⟩ = true) (hs : ∀ s ∈ b2, s ∈ bd) (hl : lsize 5 b2 ≤ lsize 5 bd) : progOK ⟨vs, ar, b2⟩ = true := by
  simp only [progOK, Bool.and_eq_true, decide_eq_true_eq, List.all_eq_true] at h ⊢
  exact ⟨⟨h.1.1, fun s hx => by rw [stmtOK_bd vs ar b2 bd]; exact h.1.2 s (hs s hx)⟩, by omega⟩
/-- Execution is sequential. -/
theorem runP_seq {vs ar : List Int} {bd : List St1} {m : Mm} (h1 : progOK ⟨vs, ar, bd⟩ = true) (h2 : memOK vs ar m = true) (k : Nat) :
    ∃ m1 t1 m2 t2, runP ⟨vs, ar, bd.take k⟩ m = (m1, t1, true) ∧ runP ⟨vs, ar, bd.drop k⟩ m1 = (m2, t2, true) ∧ runP ⟨vs, ar, bd⟩ m = (m2, t1 ++ t2, true) := by
  have hl := lsize_app 5 (bd.take k) (bd.drop k)
  rw [List.take_append_drop] at hl
  have ht : progOK ⟨vs, ar, bd.take k⟩ = true := progOK_sub h1 (fun s hs => List.mem_of_mem_take hs) (by omega)
  have hd : progOK ⟨vs, ar, bd.drop k⟩ = true := progOK_sub h1 (fun s hs => List.mem_of_mem_drop hs) (by omega)
  have ho : memOK vs ar (runL 5 m (bd.take k)).1 = true := runP_out (p := ⟨vs, ar, bd.take k⟩) ht h2
  refine ⟨_, _, _, _, runP_of ht h2, runP_of hd ho, ?_⟩
  rw [runP_of h1 h2]
  have := foldR_app (runS 5) (bd.take k) (bd.drop k) m
  rw [List.take_append_drop] at this
  simp only [runL, this]
/-- Repetition is sequencing. -/
theorem runP_rep {vs ar : List Int} {bd : List St1} {m : Mm} (h1 : progOK ⟨vs, ar, bd⟩ = true) (h2 : memOK vs ar m = true) (ix v : Ex) :
    ∃ m1 t1 m2 t2 ok, runP ⟨vs, ar, bd⟩ m = (m1, t1, true) ∧ runP ⟨vs, ar, bd⟩ m1 = (m2, t2, true) ∧ runP ⟨vs, ar, [.mk 4 0 ix v 2 bd []]⟩ m = (if ok then m2 else ⟨[], []⟩, if ok then t1 ++ t2 else [], ok) := by
  have ho : memOK vs ar (runL 5 m bd).1 = true := runP_out (p := ⟨vs, ar, bd⟩) h1 h2
  cases hq : progOK ⟨vs, ar, [.mk 4 0 ix v 2 bd []]⟩ with
  | false =>
    refine ⟨_, _, _, _, false, runP_of h1 h2, runP_of h1 ho, ?_⟩
    rw [runP_false (by rw [hq]; rfl)]; rfl
  | true =>
    refine ⟨_, _, _, _, true, runP_of h1 h2, runP_of h1 ho, ?_⟩
    have hb := (stmtOK_succ ((body_of hq).1 _ (List.mem_singleton.2 rfl))).2.1
    have hm : ∀ m, runL 5 m bd = runL 4 m bd := fun m => runL_more hb
    rw [runP_of hq h2]
    simp only [hm, if_true]
    simp [runL, foldR, runS, iterR]
/-- Conditionals choose a branch. -/
theorem runP_if {vs ar : List Int} {bd : List St1} {m : Mm} (h1 : progOK ⟨vs, ar, bd⟩ = true) (h2 : memOK vs ar m = true) (ix e : Ex) :
    ∃ m1 t1 ok, runP ⟨vs, ar, bd⟩ m = (m1, t1, true) ∧ runP ⟨vs, ar, [.mk 3 0 ix e 0 bd []]⟩ m =
      (if ok then (if (evalE m 5 e).1 = 0 then m else m1) else ⟨[], []⟩, if ok then (if (evalE m 5 e).1 = 0 then (evalE m 5 e).2 ++ [⟨1, 0⟩] else (evalE m 5 e).2 ++ [⟨1, 1⟩] ++ t1) else [], ok) := by
  cases hq : progOK ⟨vs, ar, [.mk 3 0 ix e 0 bd []]⟩ with
  | false =>
    refine ⟨_, _, false, runP_of h1 h2, ?_⟩
    rw [runP_false (by rw [hq]; rfl)]; rfl
  | true =>
    refine ⟨_, _, true, runP_of h1 h2, ?_⟩
    have hb := (stmtOK_succ ((body_of hq).1 _ (List.mem_singleton.2 rfl))).2.1
    have hm : ∀ m, runL 5 m bd = runL 4 m bd := fun m => runL_more hb
    rw [runP_of hq h2]
    simp only [hm, if_true]
    by_cases hz : (evalE m 5 e).1 = 0 <;> simp [runL, foldR, runS, hz]
end Go.Proofs.Ytajamdnbncploaa.CtR

namespace Go.Proofs.Ytajamdnbncploaa.CtD
open Go Go.CT CtF CtR

theorem trD_app (a b : List Ev) : (a.map Ev.cells).flatten ++ (b.map Ev.cells).flatten = ((a ++ b).map Ev.cells).flatten := by simp

theorem trF_len (l : List Ev) : (l.map Ev.cells).flatten.length = l.length * 2 := by
  induction l with
  | nil => rfl
  | cons a r ih => simp only [List.map_cons, List.flatten_cons, List.length_append, ih, Ev.cells, List.length_cons, List.length_nil]; omega

set_option maxHeartbeats 8000000 in
set_option maxRecDepth 10000 in
theorem lawRR (bs : List Int) (hb : Fits .u8 bs) (hl : bs.length ≤ mx) : DC Try.prog 4 [bytesD bs] [] (fun d h => d = DB true ∧ h = []) := by
  have hmx := mx_eq
  have hdm := drawRunProgram bs hb hl
  unfold bytesD
  unfold bytesD at hdm
  have ret : ∀ hp : Hp, RetOb 0 (fun d h => d = DB true ∧ h = []) (DB true) hp := fun hp => RetOb.plain (d := DB true) ⟨rfl, rfl⟩ rfl
  generalize (fun (d : D) (h : List (Option (List C))) => d = DB true ∧ h = []) = R at *
  by_cases hbig : 1048576 < bs.length
  · have hz : ((1048576 : Int) < (bs.length : Int)) = True := eq_true (by omega)
    refine dc_of_go Try.func4 rfl (by simp) ?_
    refine drv_sound (n := 12) (rs := _) Try.func4 mo rfl none _ _ ?_
    simp (maxSteps := 10000000) (maxDischargeDepth := 300) only [go_sem, reduceIte, reduceCtorEq, Nat.reduceAdd, Nat.reduceMul, Nat.reduceSub, Nat.reduceEqDiff, Nat.reduceBEq, Nat.reduceLT, Int.reduceToNat, Int.reduceLE, Int.reduceLT, Nat.reduceLeDiff, hz]
    iterate 2 ((try (refine drv_sound (n := 12) (rs := _) Try.func4 mo rfl _ _ _ ?_; simp (maxSteps := 10000000) (maxDischargeDepth := 300) only [go_sem, reduceIte, reduceCtorEq, Nat.reduceAdd, Nat.reduceMul, Nat.reduceSub, Nat.reduceEqDiff, Nat.reduceBEq, Nat.reduceLT, Int.reduceToNat, Int.reduceLE, Int.reduceLT, Nat.reduceLeDiff, hz])); (try ((with_reducible refine And.intro ?_ ?_) <;> (repeat' with_reducible apply And.intro) <;> (try first | omega | (simp only [InK]; omega) | (intro k e; cases e; rfl) | (intro hguard; exact ⟨hguard, by simp only [InK]; omega⟩) | kernel_rfl))))
    exact ret _
  have hz : ((1048576 : Int) < (bs.length : Int)) = False := eq_false (by omega)
  refine dc_of_go Try.func4 rfl (by simp) ?_
  refine drv_sound (n := 12) (rs := _) Try.func4 mo rfl none _ _ ?_
  simp (maxSteps := 10000000) (maxDischargeDepth := 300) only [go_sem, reduceIte, reduceCtorEq, Nat.reduceAdd, Nat.reduceMul, Nat.reduceSub, Nat.reduceEqDiff, Nat.reduceBEq, Nat.reduceLT, Int.reduceToNat, Int.reduceLE, Int.reduceLT, Nat.reduceLeDiff, hz]
  iterate 2 ((try (refine drv_sound (n := 12) (rs := _) Try.func4 mo rfl _ _ _ ?_; simp (maxSteps := 10000000) (maxDischargeDepth := 300) only [go_sem, reduceIte, reduceCtorEq, Nat.reduceAdd, Nat.reduceMul, Nat.reduceSub, Nat.reduceEqDiff, Nat.reduceBEq, Nat.reduceLT, Int.reduceToNat, Int.reduceLE, Int.reduceLT, Nat.reduceLeDiff, hz])); (try ((with_reducible refine And.intro ?_ ?_) <;> (repeat' with_reducible apply And.intro) <;> (try first | omega | (simp only [InK]; omega) | (intro k e; cases e; rfl) | (intro hguard; exact ⟨hguard, by simp only [InK]; omega⟩) | kernel_rfl))))
  refine XK.callG [] hdm ok7 (fun i' x h => by simp at h) (by first | (intro j hj; rfl) | ((repeat (first | exact frL (by simp) | exact frO | refine frU ?_ (by simp only [wkey]; omega))); done) | (intro j hj; simp only [upd, wkey, hpL, hOf, List.getElem?_nil]; (repeat rw [if_neg (by omega)]); done) | (intro j hj; simp only [upd, wkey, hpL, hOf, List.getElem?_nil]; (repeat' split) <;> first | (exfalso; omega) | rfl | (apply List.getElem?_eq_none; simp only [List.length_cons, List.length_nil]; omega))) (fun d h' ⟨_, _, _, _, _, e⟩ => by subst e; simp) ?_
  rintro _ _ ⟨⟨vs, ar, bd⟩, m, rfl, hp, hm, rfl⟩ _
  have hv1 : vs.length ≤ 13 := hp.nv
  have ha1 : ar.length ≤ 2 := hp.na
  have hb1 : bd.length ≤ 4 := hp.nb
  have hrI := runProgI ⟨vs, ar, bd⟩ m (by simp only; omega) (by simp only; omega)
  have hrS := runProgS ⟨vs, ar, bd⟩ m (by simp only; omega) (by simp only; omega) (by have := hp.sz 5; simp only at this ⊢; omega)
  have hrI2 := fun m => runProgI ⟨vs, ar, bd⟩ m (by simp only; omega) (by simp only; omega)
  have hrQ := runProgI ⟨vs, ar, [.mk 4 0 Ex0 Ex0 2 bd []]⟩ m (by simp only; omega) (by simp only; omega)
  have hsm := runP_sm ⟨vs, ar, bd⟩ m
  have hsq := runP_sm ⟨vs, ar, [.mk 4 0 Ex0 Ex0 2 bd []]⟩ m
  have hok := @runP_ok ⟨vs, ar, bd⟩ m
  have hrep := fun h1 h2 => @runP_rep vs ar bd m h1 h2 Ex0 Ex0
  generalize hq1 : runP ⟨vs, ar, bd⟩ m = q1 at *
  generalize hq2 : runP ⟨vs, ar, [.mk 4 0 Ex0 Ex0 2 bd []]⟩ m = q2 at *
  obtain ⟨x, tr, ok⟩ := q1
  obtain ⟨x2, tr2, ok2⟩ := q2
  simp only at hsm hsq hok
  have hms := memorySame x x (by omega) (by omega) (fun a h => by have := hsm.2.2.1 a h; omega)
  rw [memSame_refl] at hms
  have hts := traceSame tr tr (by omega)
  rw [trSame_refl] at hts
  obtain ⟨va, arr⟩ := m
  obtain ⟨vx, ax⟩ := x
  iterate 3 ((try (refine drv_sound (n := 12) (rs := _) Try.func4 mo rfl _ _ _ ?_; simp (maxSteps := 10000000) (maxDischargeDepth := 300) only [go_sem, reduceIte, reduceCtorEq, Nat.reduceAdd, Nat.reduceMul, Nat.reduceSub, Nat.reduceEqDiff, Nat.reduceBEq, Nat.reduceLT, Int.reduceToNat, Int.reduceLE, Int.reduceLT, Nat.reduceLeDiff, Pg.cells, Ex.cells, St1.cells, isI, I64, Ex.cellsL_length, Ex.cellsL_get, St1.cellsL_length, St1.cellsL_get, Mm.cells])); (try ((with_reducible refine And.intro ?_ ?_) <;> (repeat' with_reducible apply And.intro) <;> (try first | omega | (simp only [InK]; omega) | (intro k e; cases e; rfl) | (intro hguard; exact ⟨hguard, by simp only [InK]; omega⟩) | kernel_rfl))))
  refine XK.callG [] hrI ok8 (fun i' x h => by simp at h) (by first | (intro j hj; rfl) | ((repeat (first | exact frL (by simp) | exact frO | refine frU ?_ (by simp only [wkey]; omega))); done) | (intro j hj; simp only [upd, wkey, hpL, hOf, List.getElem?_nil]; (repeat rw [if_neg (by omega)]); done) | (intro j hj; simp only [upd, wkey, hpL, hOf, List.getElem?_nil]; (repeat' split) <;> first | (exfalso; omega) | rfl | (apply List.getElem?_eq_none; simp only [List.length_cons, List.length_nil]; omega))) (fun d h' ⟨_, e⟩ => by subst e; simp) ?_
  rintro _ _ ⟨rfl, rfl⟩ _
  iterate 3 ((try (refine drv_sound (n := 12) (rs := _) Try.func4 mo rfl _ _ _ ?_; simp (maxSteps := 10000000) (maxDischargeDepth := 300) only [go_sem, reduceIte, reduceCtorEq, Nat.reduceAdd, Nat.reduceMul, Nat.reduceSub, Nat.reduceEqDiff, Nat.reduceBEq, Nat.reduceLT, Int.reduceToNat, Int.reduceLE, Int.reduceLT, Nat.reduceLeDiff, Pg.cells, Ex.cells, St1.cells, isI, I64, Ex.cellsL_length, Ex.cellsL_get, St1.cellsL_length, St1.cellsL_get, Mm.cells, trD])); (try ((with_reducible refine And.intro ?_ ?_) <;> (repeat' with_reducible apply And.intro) <;> (try first | omega | (simp only [InK]; omega) | (intro k e; cases e; rfl) | (intro hguard; exact ⟨hguard, by simp only [InK]; omega⟩) | kernel_rfl))))
  refine XK.callG [] hrS ok9 (fun i' x h => by simp at h) (by first | (intro j hj; rfl) | ((repeat (first | exact frL (by simp) | exact frO | refine frU ?_ (by simp only [wkey]; omega))); done) | (intro j hj; simp only [upd, wkey, hpL, hOf, List.getElem?_nil]; (repeat rw [if_neg (by omega)]); done) | (intro j hj; simp only [upd, wkey, hpL, hOf, List.getElem?_nil]; (repeat' split) <;> first | (exfalso; omega) | rfl | (apply List.getElem?_eq_none; simp only [List.length_cons, List.length_nil]; omega))) (fun d h' ⟨_, e⟩ => by subst e; simp) ?_
  rintro _ _ ⟨rfl, rfl⟩ _
  cases ok with
  | false =>
    iterate 3 ((try (refine drv_sound (n := 12) (rs := _) Try.func4 mo rfl _ _ _ ?_; simp (maxSteps := 10000000) (maxDischargeDepth := 300) only [go_sem, reduceIte, reduceCtorEq, Nat.reduceAdd, Nat.reduceMul, Nat.reduceSub, Nat.reduceEqDiff, Nat.reduceBEq, Nat.reduceLT, Int.reduceToNat, Int.reduceLE, Int.reduceLT, Nat.reduceLeDiff, Pg.cells, Ex.cells, St1.cells, isI, I64, Ex.cellsL_length, Ex.cellsL_get, St1.cellsL_length, St1.cellsL_get, Mm.cells, trD])); (try ((with_reducible refine And.intro ?_ ?_) <;> (repeat' with_reducible apply And.intro) <;> (try first | omega | (simp only [InK]; omega) | (intro k e; cases e; rfl) | (intro hguard; exact ⟨hguard, by simp only [InK]; omega⟩) | kernel_rfl))))
    refine XK.gplain 3 false true (fun _ => hms) ok10 ?_ (by first | (intro j hj; rfl) | ((repeat (first | exact frL (by simp) | exact frO | refine frU ?_ (by simp only [wkey]; omega))); done) | (intro j hj; simp only [upd, wkey, hpL, hOf, List.getElem?_nil]; (repeat rw [if_neg (by omega)]); done) | (intro j hj; simp only [upd, wkey, hpL, hOf, List.getElem?_nil]; (repeat' split) <;> first | (exfalso; omega) | rfl | (apply List.getElem?_eq_none; simp only [List.length_cons, List.length_nil]; omega)))
    iterate 3 ((try (refine drv_sound (n := 12) (rs := _) Try.func4 mo rfl _ _ _ ?_; simp (maxSteps := 10000000) (maxDischargeDepth := 300) only [go_sem, reduceIte, reduceCtorEq, Nat.reduceAdd, Nat.reduceMul, Nat.reduceSub, Nat.reduceEqDiff, Nat.reduceBEq, Nat.reduceLT, Int.reduceToNat, Int.reduceLE, Int.reduceLT, Nat.reduceLeDiff, Pg.cells, Ex.cells, St1.cells, isI, I64, Ex.cellsL_length, Ex.cellsL_get, St1.cellsL_length, St1.cellsL_get, Mm.cells, trD])); (try ((with_reducible refine And.intro ?_ ?_) <;> (repeat' with_reducible apply And.intro) <;> (try first | omega | (simp only [InK]; omega) | (intro k e; cases e; rfl) | (intro hguard; exact ⟨hguard, by simp only [InK]; omega⟩) | kernel_rfl))))
    refine XK.gplain 9 false true (fun _ => hts) ok11 ?_ (by first | (intro j hj; rfl) | ((repeat (first | exact frL (by simp) | exact frO | refine frU ?_ (by simp only [wkey]; omega))); done) | (intro j hj; simp only [upd, wkey, hpL, hOf, List.getElem?_nil]; (repeat rw [if_neg (by omega)]); done) | (intro j hj; simp only [upd, wkey, hpL, hOf, List.getElem?_nil]; (repeat' split) <;> first | (exfalso; omega) | rfl | (apply List.getElem?_eq_none; simp only [List.length_cons, List.length_nil]; omega)))
    iterate 3 ((try (refine drv_sound (n := 12) (rs := _) Try.func4 mo rfl _ _ _ ?_; simp (maxSteps := 10000000) (maxDischargeDepth := 300) only [go_sem, reduceIte, reduceCtorEq, Nat.reduceAdd, Nat.reduceMul, Nat.reduceSub, Nat.reduceEqDiff, Nat.reduceBEq, Nat.reduceLT, Int.reduceToNat, Int.reduceLE, Int.reduceLT, Nat.reduceLeDiff, Pg.cells, Ex.cells, St1.cells, isI, I64, Ex.cellsL_length, Ex.cellsL_get, St1.cellsL_length, St1.cellsL_get, Mm.cells, trD])); (try ((with_reducible refine And.intro ?_ ?_) <;> (repeat' with_reducible apply And.intro) <;> (try first | omega | (simp only [InK]; omega) | (intro k e; cases e; rfl) | (intro hguard; exact ⟨hguard, by simp only [InK]; omega⟩) | kernel_rfl))))
    refine XK.gplain 3 true true (fun _ => hms) ok10 ?_ (by first | (intro j hj; rfl) | ((repeat (first | exact frL (by simp) | exact frO | refine frU ?_ (by simp only [wkey]; omega))); done) | (intro j hj; simp only [upd, wkey, hpL, hOf, List.getElem?_nil]; (repeat rw [if_neg (by omega)]); done) | (intro j hj; simp only [upd, wkey, hpL, hOf, List.getElem?_nil]; (repeat' split) <;> first | (exfalso; omega) | rfl | (apply List.getElem?_eq_none; simp only [List.length_cons, List.length_nil]; omega)))
    iterate 3 ((try (refine drv_sound (n := 12) (rs := _) Try.func4 mo rfl _ _ _ ?_; simp (maxSteps := 10000000) (maxDischargeDepth := 300) only [go_sem, reduceIte, reduceCtorEq, Nat.reduceAdd, Nat.reduceMul, Nat.reduceSub, Nat.reduceEqDiff, Nat.reduceBEq, Nat.reduceLT, Int.reduceToNat, Int.reduceLE, Int.reduceLT, Nat.reduceLeDiff, Pg.cells, Ex.cells, St1.cells, isI, I64, Ex.cellsL_length, Ex.cellsL_get, St1.cellsL_length, St1.cellsL_get, Mm.cells, trD])); (try ((with_reducible refine And.intro ?_ ?_) <;> (repeat' with_reducible apply And.intro) <;> (try first | omega | (simp only [InK]; omega) | (intro k e; cases e; rfl) | (intro hguard; exact ⟨hguard, by simp only [InK]; omega⟩) | kernel_rfl))))
    refine XK.gplain 8 true true (fun _ => hts) ok11 ?_ (by first | (intro j hj; rfl) | ((repeat (first | exact frL (by simp) | exact frO | refine frU ?_ (by simp only [wkey]; omega))); done) | (intro j hj; simp only [upd, wkey, hpL, hOf, List.getElem?_nil]; (repeat rw [if_neg (by omega)]); done) | (intro j hj; simp only [upd, wkey, hpL, hOf, List.getElem?_nil]; (repeat' split) <;> first | (exfalso; omega) | rfl | (apply List.getElem?_eq_none; simp only [List.length_cons, List.length_nil]; omega)))
    iterate 3 ((try (refine drv_sound (n := 12) (rs := _) Try.func4 mo rfl _ _ _ ?_; simp (maxSteps := 10000000) (maxDischargeDepth := 300) only [go_sem, reduceIte, reduceCtorEq, Nat.reduceAdd, Nat.reduceMul, Nat.reduceSub, Nat.reduceEqDiff, Nat.reduceBEq, Nat.reduceLT, Int.reduceToNat, Int.reduceLE, Int.reduceLT, Nat.reduceLeDiff, Pg.cells, Ex.cells, St1.cells, isI, I64, Ex.cellsL_length, Ex.cellsL_get, St1.cellsL_length, St1.cellsL_get, Mm.cells, trD])); (try ((with_reducible refine And.intro ?_ ?_) <;> (repeat' with_reducible apply And.intro) <;> (try first | omega | (simp only [InK]; omega) | (intro k e; cases e; rfl) | (intro hguard; exact ⟨hguard, by simp only [InK]; omega⟩) | kernel_rfl))))
    exact ret _
  | true =>
    iterate 3 ((try (refine drv_sound (n := 12) (rs := _) Try.func4 mo rfl _ _ _ ?_; simp (maxSteps := 10000000) (maxDischargeDepth := 300) only [go_sem, reduceIte, reduceCtorEq, Nat.reduceAdd, Nat.reduceMul, Nat.reduceSub, Nat.reduceEqDiff, Nat.reduceBEq, Nat.reduceLT, Int.reduceToNat, Int.reduceLE, Int.reduceLT, Nat.reduceLeDiff, Pg.cells, Ex.cells, St1.cells, isI, I64, Ex.cellsL_length, Ex.cellsL_get, St1.cellsL_length, St1.cellsL_get, Mm.cells, trD])); (try ((with_reducible refine And.intro ?_ ?_) <;> (repeat' with_reducible apply And.intro) <;> (try first | omega | (simp only [InK]; omega) | (intro k e; cases e; rfl) | (intro hguard; exact ⟨hguard, by simp only [InK]; omega⟩) | kernel_rfl))))
    refine XK.gplain 3 false true (fun _ => hms) ok10 ?_ (by first | (intro j hj; rfl) | ((repeat (first | exact frL (by simp) | exact frO | refine frU ?_ (by simp only [wkey]; omega))); done) | (intro j hj; simp only [upd, wkey, hpL, hOf, List.getElem?_nil]; (repeat rw [if_neg (by omega)]); done) | (intro j hj; simp only [upd, wkey, hpL, hOf, List.getElem?_nil]; (repeat' split) <;> first | (exfalso; omega) | rfl | (apply List.getElem?_eq_none; simp only [List.length_cons, List.length_nil]; omega)))
    iterate 3 ((try (refine drv_sound (n := 12) (rs := _) Try.func4 mo rfl _ _ _ ?_; simp (maxSteps := 10000000) (maxDischargeDepth := 300) only [go_sem, reduceIte, reduceCtorEq, Nat.reduceAdd, Nat.reduceMul, Nat.reduceSub, Nat.reduceEqDiff, Nat.reduceBEq, Nat.reduceLT, Int.reduceToNat, Int.reduceLE, Int.reduceLT, Nat.reduceLeDiff, Pg.cells, Ex.cells, St1.cells, isI, I64, Ex.cellsL_length, Ex.cellsL_get, St1.cellsL_length, St1.cellsL_get, Mm.cells, trD])); (try ((with_reducible refine And.intro ?_ ?_) <;> (repeat' with_reducible apply And.intro) <;> (try first | omega | (simp only [InK]; omega) | (intro k e; cases e; rfl) | (intro hguard; exact ⟨hguard, by simp only [InK]; omega⟩) | kernel_rfl))))
    refine XK.gplain 9 false true (fun _ => hts) ok11 ?_ (by first | (intro j hj; rfl) | ((repeat (first | exact frL (by simp) | exact frO | refine frU ?_ (by simp only [wkey]; omega))); done) | (intro j hj; simp only [upd, wkey, hpL, hOf, List.getElem?_nil]; (repeat rw [if_neg (by omega)]); done) | (intro j hj; simp only [upd, wkey, hpL, hOf, List.getElem?_nil]; (repeat' split) <;> first | (exfalso; omega) | rfl | (apply List.getElem?_eq_none; simp only [List.length_cons, List.length_nil]; omega)))
    iterate 3 ((try (refine drv_sound (n := 12) (rs := _) Try.func4 mo rfl _ _ _ ?_; simp (maxSteps := 10000000) (maxDischargeDepth := 300) only [go_sem, reduceIte, reduceCtorEq, Nat.reduceAdd, Nat.reduceMul, Nat.reduceSub, Nat.reduceEqDiff, Nat.reduceBEq, Nat.reduceLT, Int.reduceToNat, Int.reduceLE, Int.reduceLT, Nat.reduceLeDiff, Pg.cells, Ex.cells, St1.cells, isI, I64, Ex.cellsL_length, Ex.cellsL_get, St1.cellsL_length, St1.cellsL_get, Mm.cells, trD])); (try ((with_reducible refine And.intro ?_ ?_) <;> (repeat' with_reducible apply And.intro) <;> (try first | omega | (simp only [InK]; omega) | (intro k e; cases e; rfl) | (intro hguard; exact ⟨hguard, by simp only [InK]; omega⟩) | kernel_rfl))))
    obtain ⟨hk1, hk2⟩ := hok rfl
    obtain ⟨m1, t1, m2, t2, ok, e1, e2, e3⟩ := hrep hk1 hk2
    simp only [Prod.mk.injEq] at e1 e3
    obtain ⟨rfl, rfl, _⟩ := e1
    obtain ⟨rfl, rfl, rfl⟩ := e3
    have hrB := hrI2 ⟨vx, ax⟩
    have hsm2 := runP_sm ⟨vs, ar, bd⟩ ⟨vx, ax⟩
    rw [e2] at hrB hsm2
    simp only at hsm2
    refine XK.freezeAll 3904 11 _ [St1.cells (.mk 4 0 Ex0 Ex0 2 bd [])] ?_ rfl (by simp [wkL, St1.cells, Ex.cells, Ex.cellsL, Ex0, St1.cellsL]) (by simp [St1.cells_len]) (by intro x hx; rw [List.mem_singleton.1 hx]; exact st_kf _)
    have hma := memorySame m2 m2 (by omega) (by omega) (fun a h => by have := hsm2.2.2.1 a h; omega)
    rw [memSame_refl] at hma
    have htt := traceSame (tr ++ t2) (tr ++ t2) (by rw [List.length_append]; have := hsm2.2.2.2; have := hsm.2.2.2; omega)
    rw [trSame_refl] at htt
    have hl1 := hsm.2.2.2
    have hl2 := hsm2.2.2.2
    clear hrep hok hdm hrI hrS hrI2 hms hts hsm hsm2
    obtain ⟨vy, ay⟩ := m2
    cases ok2 with
    | false =>
      refine XK.callG [] hrQ ok8 (fun i' x h => by simp at h) (by first | (intro j hj; rfl) | ((repeat (first | exact frL (by simp) | exact frO | refine frU ?_ (by simp only [wkey]; omega))); done) | (intro j hj; simp only [upd, wkey, hpL, hOf, List.getElem?_nil]; (repeat rw [if_neg (by omega)]); done) | (intro j hj; simp only [upd, wkey, hpL, hOf, List.getElem?_nil]; (repeat' split) <;> first | (exfalso; omega) | rfl | (apply List.getElem?_eq_none; simp only [List.length_cons, List.length_nil]; omega))) (fun d h' ⟨_, e⟩ => by subst e; simp) ?_
      rintro _ _ ⟨rfl, rfl⟩ _
      iterate 3 ((try (refine drv_sound (n := 12) (rs := _) Try.func4 mo rfl _ _ _ ?_; simp (maxSteps := 10000000) (maxDischargeDepth := 300) only [go_sem, reduceIte, reduceCtorEq, Nat.reduceAdd, Nat.reduceMul, Nat.reduceSub, Nat.reduceEqDiff, Nat.reduceBEq, Nat.reduceLT, Int.reduceToNat, Int.reduceLE, Int.reduceLT, Nat.reduceLeDiff, Pg.cells, Ex.cells, St1.cells, isI, I64, Ex.cellsL_length, Ex.cellsL_get, St1.cellsL_length, St1.cellsL_get, Mm.cells, trD, bne_self_eq_false, trF_len])); (try ((with_reducible refine And.intro ?_ ?_) <;> (repeat' with_reducible apply And.intro) <;> (try first | omega | (simp only [InK]; omega) | (intro k e; cases e; rfl) | (intro hguard; exact ⟨hguard, by simp only [InK]; omega⟩) | kernel_rfl))))
      refine XK.callG [] hrB ok8 (fun i' x h => by simp at h) (by first | (intro j hj; rfl) | ((repeat (first | exact frL (by simp) | exact frO | refine frU ?_ (by simp only [wkey]; omega))); done) | (intro j hj; simp only [upd, wkey, hpL, hOf, List.getElem?_nil]; (repeat rw [if_neg (by omega)]); done) | (intro j hj; simp only [upd, wkey, hpL, hOf, List.getElem?_nil]; (repeat' split) <;> first | (exfalso; omega) | rfl | (apply List.getElem?_eq_none; simp only [List.length_cons, List.length_nil]; omega))) (fun d h' ⟨_, e⟩ => by subst e; simp) ?_
      rintro _ _ ⟨rfl, rfl⟩ _
      iterate 3 ((try (refine drv_sound (n := 12) (rs := _) Try.func4 mo rfl _ _ _ ?_; simp (maxSteps := 10000000) (maxDischargeDepth := 300) only [go_sem, reduceIte, reduceCtorEq, Nat.reduceAdd, Nat.reduceMul, Nat.reduceSub, Nat.reduceEqDiff, Nat.reduceBEq, Nat.reduceLT, Int.reduceToNat, Int.reduceLE, Int.reduceLT, Nat.reduceLeDiff, Pg.cells, Ex.cells, St1.cells, isI, I64, Ex.cellsL_length, Ex.cellsL_get, St1.cellsL_length, St1.cellsL_get, Mm.cells, trD, bne_self_eq_false, trF_len])); (try ((with_reducible refine And.intro ?_ ?_) <;> (repeat' with_reducible apply And.intro) <;> (try first | omega | (simp only [InK]; omega) | (intro k e; cases e; rfl) | (intro hguard; exact ⟨hguard, by simp only [InK]; omega⟩) | kernel_rfl))))
      refine XK.gskip 4 true (DB true) ?_ (by first | (intro j hj; rfl) | ((repeat (first | exact frL (by simp) | exact frO | refine frU ?_ (by simp only [wkey]; omega))); done) | (intro j hj; simp only [upd, wkey, hpL, hOf, List.getElem?_nil]; (repeat rw [if_neg (by omega)]); done) | (intro j hj; simp only [upd, wkey, hpL, hOf, List.getElem?_nil]; (repeat' split) <;> first | (exfalso; omega) | rfl | (apply List.getElem?_eq_none; simp only [List.length_cons, List.length_nil]; omega)))
      iterate 3 ((try (refine drv_sound (n := 12) (rs := _) Try.func4 mo rfl _ _ _ ?_; simp (maxSteps := 10000000) (maxDischargeDepth := 300) only [go_sem, reduceIte, reduceCtorEq, Nat.reduceAdd, Nat.reduceMul, Nat.reduceSub, Nat.reduceEqDiff, Nat.reduceBEq, Nat.reduceLT, Int.reduceToNat, Int.reduceLE, Int.reduceLT, Nat.reduceLeDiff, Pg.cells, Ex.cells, St1.cells, isI, I64, Ex.cellsL_length, Ex.cellsL_get, St1.cellsL_length, St1.cellsL_get, Mm.cells, trD, bne_self_eq_false, trF_len])); (try ((with_reducible refine And.intro ?_ ?_) <;> (repeat' with_reducible apply And.intro) <;> (try first | omega | (simp only [InK]; omega) | (intro k e; cases e; rfl) | (intro hguard; exact ⟨hguard, by simp only [InK]; omega⟩) | kernel_rfl))))
      refine XK.gskip 9 true (DB true) ?_ (by first | (intro j hj; rfl) | ((repeat (first | exact frL (by simp) | exact frO | refine frU ?_ (by simp only [wkey]; omega))); done) | (intro j hj; simp only [upd, wkey, hpL, hOf, List.getElem?_nil]; (repeat rw [if_neg (by omega)]); done) | (intro j hj; simp only [upd, wkey, hpL, hOf, List.getElem?_nil]; (repeat' split) <;> first | (exfalso; omega) | rfl | (apply List.getElem?_eq_none; simp only [List.length_cons, List.length_nil]; omega)))
      iterate 3 ((try (refine drv_sound (n := 12) (rs := _) Try.func4 mo rfl _ _ _ ?_; simp (maxSteps := 10000000) (maxDischargeDepth := 300) only [go_sem, reduceIte, reduceCtorEq, Nat.reduceAdd, Nat.reduceMul, Nat.reduceSub, Nat.reduceEqDiff, Nat.reduceBEq, Nat.reduceLT, Int.reduceToNat, Int.reduceLE, Int.reduceLT, Nat.reduceLeDiff, Pg.cells, Ex.cells, St1.cells, isI, I64, Ex.cellsL_length, Ex.cellsL_get, St1.cellsL_length, St1.cellsL_get, Mm.cells, trD, bne_self_eq_false, trF_len])); (try ((with_reducible refine And.intro ?_ ?_) <;> (repeat' with_reducible apply And.intro) <;> (try first | omega | (simp only [InK]; omega) | (intro k e; cases e; rfl) | (intro hguard; exact ⟨hguard, by simp only [InK]; omega⟩) | kernel_rfl))))
      exact ret _
    | true =>
      simp only [if_true] at hrQ
      refine XK.callG [] hrQ ok8 (fun i' x h => by simp at h) (by first | (intro j hj; rfl) | ((repeat (first | exact frL (by simp) | exact frO | refine frU ?_ (by simp only [wkey]; omega))); done) | (intro j hj; simp only [upd, wkey, hpL, hOf, List.getElem?_nil]; (repeat rw [if_neg (by omega)]); done) | (intro j hj; simp only [upd, wkey, hpL, hOf, List.getElem?_nil]; (repeat' split) <;> first | (exfalso; omega) | rfl | (apply List.getElem?_eq_none; simp only [List.length_cons, List.length_nil]; omega))) (fun d h' ⟨_, e⟩ => by subst e; simp) ?_
      rintro _ _ ⟨rfl, rfl⟩ _
      iterate 3 ((try (refine drv_sound (n := 12) (rs := _) Try.func4 mo rfl _ _ _ ?_; simp (maxSteps := 10000000) (maxDischargeDepth := 300) only [go_sem, reduceIte, reduceCtorEq, Nat.reduceAdd, Nat.reduceMul, Nat.reduceSub, Nat.reduceEqDiff, Nat.reduceBEq, Nat.reduceLT, Int.reduceToNat, Int.reduceLE, Int.reduceLT, Nat.reduceLeDiff, Pg.cells, Ex.cells, St1.cells, isI, I64, Ex.cellsL_length, Ex.cellsL_get, St1.cellsL_length, St1.cellsL_get, Mm.cells, trD, bne_self_eq_false, trF_len])); (try ((with_reducible refine And.intro ?_ ?_) <;> (repeat' with_reducible apply And.intro) <;> (try first | omega | (simp only [InK]; omega) | (intro k e; cases e; rfl) | (intro hguard; exact ⟨hguard, by simp only [InK]; omega⟩) | kernel_rfl))))
      refine XK.callG [] hrB ok8 (fun i' x h => by simp at h) (by first | (intro j hj; rfl) | ((repeat (first | exact frL (by simp) | exact frO | refine frU ?_ (by simp only [wkey]; omega))); done) | (intro j hj; simp only [upd, wkey, hpL, hOf, List.getElem?_nil]; (repeat rw [if_neg (by omega)]); done) | (intro j hj; simp only [upd, wkey, hpL, hOf, List.getElem?_nil]; (repeat' split) <;> first | (exfalso; omega) | rfl | (apply List.getElem?_eq_none; simp only [List.length_cons, List.length_nil]; omega))) (fun d h' ⟨_, e⟩ => by subst e; simp) ?_
      rintro _ _ ⟨rfl, rfl⟩ _
      iterate 3 ((try (refine drv_sound (n := 12) (rs := _) Try.func4 mo rfl _ _ _ ?_; simp (maxSteps := 10000000) (maxDischargeDepth := 300) only [go_sem, reduceIte, reduceCtorEq, Nat.reduceAdd, Nat.reduceMul, Nat.reduceSub, Nat.reduceEqDiff, Nat.reduceBEq, Nat.reduceLT, Int.reduceToNat, Int.reduceLE, Int.reduceLT, Nat.reduceLeDiff, Pg.cells, Ex.cells, St1.cells, isI, I64, Ex.cellsL_length, Ex.cellsL_get, St1.cellsL_length, St1.cellsL_get, Mm.cells, trD, bne_self_eq_false, trF_len])); (try ((with_reducible refine And.intro ?_ ?_) <;> (repeat' with_reducible apply And.intro) <;> (try first | omega | (simp only [InK]; omega) | (intro k e; cases e; rfl) | (intro hguard; exact ⟨hguard, by simp only [InK]; omega⟩) | kernel_rfl))))
      refine XK.gplain 4 true true (fun _ => hma) ok10 ?_ (by first | (intro j hj; rfl) | ((repeat (first | exact frL (by simp) | exact frO | refine frU ?_ (by simp only [wkey]; omega))); done) | (intro j hj; simp only [upd, wkey, hpL, hOf, List.getElem?_nil]; (repeat rw [if_neg (by omega)]); done) | (intro j hj; simp only [upd, wkey, hpL, hOf, List.getElem?_nil]; (repeat' split) <;> first | (exfalso; omega) | rfl | (apply List.getElem?_eq_none; simp only [List.length_cons, List.length_nil]; omega)))
      iterate 3 ((try (refine drv_sound (n := 12) (rs := _) Try.func4 mo rfl _ _ _ ?_; simp (maxSteps := 10000000) (maxDischargeDepth := 300) only [go_sem, reduceIte, reduceCtorEq, Nat.reduceAdd, Nat.reduceMul, Nat.reduceSub, Nat.reduceEqDiff, Nat.reduceBEq, Nat.reduceLT, Int.reduceToNat, Int.reduceLE, Int.reduceLT, Nat.reduceLeDiff, Pg.cells, Ex.cells, St1.cells, isI, I64, Ex.cellsL_length, Ex.cellsL_get, St1.cellsL_length, St1.cellsL_get, Mm.cells, trD, bne_self_eq_false, trF_len])); (try ((with_reducible refine And.intro ?_ ?_) <;> (repeat' with_reducible apply And.intro) <;> (try first | omega | (simp only [InK]; omega) | (intro k e; cases e; rfl) | (intro hguard; exact ⟨hguard, by simp only [InK]; omega⟩) | kernel_rfl))))
      refine XK.freeze 110 6528 2 _ ((tr ++ t2).map Ev.cells) ?_ (by rw [← trD_app]; rfl) rfl (by simp) (by intro y hy; obtain ⟨e, _, rfl⟩ := List.mem_map.1 hy; rfl) (by intro y hy c hc; obtain ⟨e, _, rfl⟩ := List.mem_map.1 hy; simp [Ev.cells] at hc; rcases hc with rfl | rfl <;> rfl)
      refine XK.gplain 9 true true (fun _ => htt) ok11 ?_ (by first | (intro j hj; rfl) | ((repeat (first | exact frL (by simp) | exact frO | refine frU ?_ (by simp only [wkey]; omega))); done) | (intro j hj; simp only [upd, wkey, hpL, hOf, List.getElem?_nil]; (repeat rw [if_neg (by omega)]); done) | (intro j hj; simp only [upd, wkey, hpL, hOf, List.getElem?_nil]; (repeat' split) <;> first | (exfalso; omega) | rfl | (apply List.getElem?_eq_none; simp only [List.length_cons, List.length_nil]; omega)))
      iterate 3 ((try (refine drv_sound (n := 12) (rs := _) Try.func4 mo rfl _ _ _ ?_; simp (maxSteps := 10000000) (maxDischargeDepth := 300) only [go_sem, reduceIte, reduceCtorEq, Nat.reduceAdd, Nat.reduceMul, Nat.reduceSub, Nat.reduceEqDiff, Nat.reduceBEq, Nat.reduceLT, Int.reduceToNat, Int.reduceLE, Int.reduceLT, Nat.reduceLeDiff, Pg.cells, Ex.cells, St1.cells, isI, I64, Ex.cellsL_length, Ex.cellsL_get, St1.cellsL_length, St1.cellsL_get, Mm.cells, trD, bne_self_eq_false, trF_len])); (try ((with_reducible refine And.intro ?_ ?_) <;> (repeat' with_reducible apply And.intro) <;> (try first | omega | (simp only [InK]; omega) | (intro k e; cases e; rfl) | (intro hguard; exact ⟨hguard, by simp only [InK]; omega⟩) | kernel_rfl))))
      exact ret _
end Go.Proofs.Ytajamdnbncploaa.CtD
