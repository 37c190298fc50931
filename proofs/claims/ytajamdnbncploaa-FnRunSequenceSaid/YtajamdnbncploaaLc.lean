/- Contracts of functions of the program, one behind the other, as plain data: what each call returns and which blocks it leaves. -/
import Derived.Test.YtajamdnbncploaaFacts
import Derived.Test.YtajamdnbncploaaCtD
import Derived.Test.YtajamdnbncploaaVa
import Derived.Test.YtajamdnbncploaaRc
import Derived.Test.YtajamdnbncploaaDc
import Derived.Test.YtajamdnbncploaaLb
import Derived.Test.YtajamdnbncploaaLa
set_option linter.unusedVariables false
set_option linter.unusedSimpArgs false
namespace Go.Proofs.Ytajamdnbncploaa.CtD
open Go Go.CT CtF CtR

theorem cellsL_take (l : List St1) (k : Nat) : (St1.cellsL l).take k = St1.cellsL (l.take k) := by simp only [St1.cellsL_eq, List.map_take]
theorem cellsL_drop (l : List St1) (k : Nat) : (St1.cellsL l).drop k = St1.cellsL (l.drop k) := by simp only [St1.cellsL_eq, List.map_drop]
theorem take_all (l : List St1) (k : Nat) : (l.drop k).take (l.length - k) = l.drop k := List.take_of_length_le (by simp)

set_option maxHeartbeats 8000000 in
set_option maxRecDepth 10000 in
theorem lawRS (bs ms : List Int) (hb : Fits .u8 bs) (hb2 : Fits .u8 ms) (hl : bs.length ≤ mx) (hl2 : ms.length ≤ mx) : DC Try.prog 5 [bytesD bs, bytesD ms] [] (fun d h => d = DB true ∧ h = []) := by
  have hmx := mx_eq
  have hdm := drawRunProgram bs hb hl
  unfold bytesD
  unfold bytesD at hdm
  have ret : ∀ hp : Hp, RetOb 0 (fun d h => d = DB true ∧ h = []) (DB true) hp := fun hp => RetOb.plain (d := DB true) ⟨rfl, rfl⟩ rfl
  generalize (fun (d : D) (h : List (Option (List C))) => d = DB true ∧ h = []) = R at *
  by_cases hbig : 1048576 < bs.length
  · have hz : ((1048576 : Int) < (bs.length : Int)) = True := eq_true (by omega)
    refine dc_of_go Try.func5 rfl (by simp) ?_
    refine drv_sound (n := 12) (rs := _) Try.func5 mo rfl none _ _ ?_
    simp (maxSteps := 10000000) (maxDischargeDepth := 300) only [go_sem, reduceIte, reduceCtorEq, Nat.reduceAdd, Nat.reduceMul, Nat.reduceSub, Nat.reduceEqDiff, Nat.reduceBEq, Nat.reduceLT, Int.reduceToNat, Int.reduceLE, Int.reduceLT, Nat.reduceLeDiff, hz]
    iterate 2 ((try (refine drv_sound (n := 12) (rs := _) Try.func5 mo rfl _ _ _ ?_; simp (maxSteps := 10000000) (maxDischargeDepth := 300) only [go_sem, reduceIte, reduceCtorEq, Nat.reduceAdd, Nat.reduceMul, Nat.reduceSub, Nat.reduceEqDiff, Nat.reduceBEq, Nat.reduceLT, Int.reduceToNat, Int.reduceLE, Int.reduceLT, Nat.reduceLeDiff, hz])); (try ((with_reducible refine And.intro ?_ ?_) <;> (repeat' with_reducible apply And.intro) <;> (try first | omega | (simp only [InK]; omega) | (intro k e; cases e; rfl) | (intro hguard; exact ⟨hguard, by simp only [InK]; omega⟩) | kernel_rfl))))
    exact ret _
  have hz : ((1048576 : Int) < (bs.length : Int)) = False := eq_false (by omega)
  by_cases hbig2 : 1048576 < ms.length
  · have hz2 : ((1048576 : Int) < (ms.length : Int)) = True := eq_true (by omega)
    refine dc_of_go Try.func5 rfl (by simp) ?_
    refine drv_sound (n := 12) (rs := _) Try.func5 mo rfl none _ _ ?_
    simp (maxSteps := 10000000) (maxDischargeDepth := 300) only [go_sem, reduceIte, reduceCtorEq, Nat.reduceAdd, Nat.reduceMul, Nat.reduceSub, Nat.reduceEqDiff, Nat.reduceBEq, Nat.reduceLT, Int.reduceToNat, Int.reduceLE, Int.reduceLT, Nat.reduceLeDiff, hz, hz2]
    iterate 2 ((try (refine drv_sound (n := 12) (rs := _) Try.func5 mo rfl _ _ _ ?_; simp (maxSteps := 10000000) (maxDischargeDepth := 300) only [go_sem, reduceIte, reduceCtorEq, Nat.reduceAdd, Nat.reduceMul, Nat.reduceSub, Nat.reduceEqDiff, Nat.reduceBEq, Nat.reduceLT, Int.reduceToNat, Int.reduceLE, Int.reduceLT, Nat.reduceLeDiff, hz, hz2])); (try ((with_reducible refine And.intro ?_ ?_) <;> (repeat' with_reducible apply And.intro) <;> (try first | omega | (simp only [InK]; omega) | (intro k e; cases e; rfl) | (intro hguard; exact ⟨hguard, by simp only [InK]; omega⟩) | kernel_rfl))))
    exact ret _
  have hz2 : ((1048576 : Int) < (ms.length : Int)) = False := eq_false (by omega)
  refine dc_of_go Try.func5 rfl (by simp) ?_
  refine drv_sound (n := 12) (rs := _) Try.func5 mo rfl none _ _ ?_
  simp (maxSteps := 10000000) (maxDischargeDepth := 300) only [go_sem, reduceIte, reduceCtorEq, Nat.reduceAdd, Nat.reduceMul, Nat.reduceSub, Nat.reduceEqDiff, Nat.reduceBEq, Nat.reduceLT, Int.reduceToNat, Int.reduceLE, Int.reduceLT, Nat.reduceLeDiff, hz, hz2]
  iterate 2 ((try (refine drv_sound (n := 12) (rs := _) Try.func5 mo rfl _ _ _ ?_; simp (maxSteps := 10000000) (maxDischargeDepth := 300) only [go_sem, reduceIte, reduceCtorEq, Nat.reduceAdd, Nat.reduceMul, Nat.reduceSub, Nat.reduceEqDiff, Nat.reduceBEq, Nat.reduceLT, Int.reduceToNat, Int.reduceLE, Int.reduceLT, Nat.reduceLeDiff, hz, hz2])); (try ((with_reducible refine And.intro ?_ ?_) <;> (repeat' with_reducible apply And.intro) <;> (try first | omega | (simp only [InK]; omega) | (intro k e; cases e; rfl) | (intro hguard; exact ⟨hguard, by simp only [InK]; omega⟩) | kernel_rfl))))
  refine XK.callG [] hdm ok7 (fun i' x h => by simp at h) (by first | (intro j hj; rfl) | ((repeat (first | exact frL (by simp) | exact frO | refine frU ?_ (by simp only [wkey]; omega))); done) | (intro j hj; simp only [upd, wkey, hpL, hOf, List.getElem?_nil]; (repeat rw [if_neg (by omega)]); done) | (intro j hj; simp only [upd, wkey, hpL, hOf, List.getElem?_nil]; (repeat' split) <;> first | (exfalso; omega) | rfl | (apply List.getElem?_eq_none; simp only [List.length_cons, List.length_nil]; omega))) (fun d h' ⟨_, _, _, _, _, e⟩ => by subst e; simp) ?_
  rintro _ _ ⟨⟨vs, ar, bd⟩, m, rfl, hp, hm, rfl⟩ _
  have hv1 : vs.length ≤ 13 := hp.nv
  have ha1 : ar.length ≤ 2 := hp.na
  have hb1 : bd.length ≤ 4 := hp.nb
  have hrI := runProgI ⟨vs, ar, bd⟩ m (by simp only; omega) (by simp only; omega)
  have hrS := runProgS ⟨vs, ar, bd⟩ m (by simp only; omega) (by simp only; omega) (by have := hp.sz 5; simp only at this ⊢; omega)
  have hrJ := fun b m => runProgI ⟨vs, ar, b⟩ m (by simp only; omega) (by simp only; omega)
  have hsm := runP_sm ⟨vs, ar, bd⟩ m
  have hok := @runP_ok ⟨vs, ar, bd⟩ m
  have hseq := fun h1 h2 => @runP_seq vs ar bd m h1 h2 (ms.length % (bd.length + 1))
  generalize hq1 : runP ⟨vs, ar, bd⟩ m = q1 at *
  obtain ⟨x, tr, ok⟩ := q1
  simp only at hsm hok
  have hms := memorySame x x (by omega) (by omega) (fun a h => by have := hsm.2.2.1 a h; omega)
  rw [memSame_refl] at hms
  have hts := traceSame tr tr (by omega)
  rw [trSame_refl] at hts
  have hm0 := m
  obtain ⟨va, arr⟩ := m
  obtain ⟨vx, ax⟩ := x
  iterate 3 ((try (refine drv_sound (n := 12) (rs := _) Try.func5 mo rfl _ _ _ ?_; simp (maxSteps := 10000000) (maxDischargeDepth := 300) only [go_sem, reduceIte, reduceCtorEq, Nat.reduceAdd, Nat.reduceMul, Nat.reduceSub, Nat.reduceEqDiff, Nat.reduceBEq, Nat.reduceLT, Int.reduceToNat, Int.reduceLE, Int.reduceLT, Nat.reduceLeDiff, Pg.cells, Ex.cells, St1.cells, isI, I64, Ex.cellsL_length, Ex.cellsL_get, St1.cellsL_length, St1.cellsL_get, Mm.cells])); (try ((with_reducible refine And.intro ?_ ?_) <;> (repeat' with_reducible apply And.intro) <;> (try first | omega | (simp only [InK]; omega) | (intro k e; cases e; rfl) | (intro hguard; exact ⟨hguard, by simp only [InK]; omega⟩) | kernel_rfl))))
  refine XK.callG [] hrI ok8 (fun i' x h => by simp at h) (by first | (intro j hj; rfl) | ((repeat (first | exact frL (by simp) | exact frO | refine frU ?_ (by simp only [wkey]; omega))); done) | (intro j hj; simp only [upd, wkey, hpL, hOf, List.getElem?_nil]; (repeat rw [if_neg (by omega)]); done) | (intro j hj; simp only [upd, wkey, hpL, hOf, List.getElem?_nil]; (repeat' split) <;> first | (exfalso; omega) | rfl | (apply List.getElem?_eq_none; simp only [List.length_cons, List.length_nil]; omega))) (fun d h' ⟨_, e⟩ => by subst e; simp) ?_
  rintro _ _ ⟨rfl, rfl⟩ _
  iterate 3 ((try (refine drv_sound (n := 12) (rs := _) Try.func5 mo rfl _ _ _ ?_; simp (maxSteps := 10000000) (maxDischargeDepth := 300) only [go_sem, reduceIte, reduceCtorEq, Nat.reduceAdd, Nat.reduceMul, Nat.reduceSub, Nat.reduceEqDiff, Nat.reduceBEq, Nat.reduceLT, Int.reduceToNat, Int.reduceLE, Int.reduceLT, Nat.reduceLeDiff, Pg.cells, Ex.cells, St1.cells, isI, I64, Ex.cellsL_length, Ex.cellsL_get, St1.cellsL_length, St1.cellsL_get, Mm.cells, trD])); (try ((with_reducible refine And.intro ?_ ?_) <;> (repeat' with_reducible apply And.intro) <;> (try first | omega | (simp only [InK]; omega) | (intro k e; cases e; rfl) | (intro hguard; exact ⟨hguard, by simp only [InK]; omega⟩) | kernel_rfl))))
  refine XK.callG [] hrS ok9 (fun i' x h => by simp at h) (by first | (intro j hj; rfl) | ((repeat (first | exact frL (by simp) | exact frO | refine frU ?_ (by simp only [wkey]; omega))); done) | (intro j hj; simp only [upd, wkey, hpL, hOf, List.getElem?_nil]; (repeat rw [if_neg (by omega)]); done) | (intro j hj; simp only [upd, wkey, hpL, hOf, List.getElem?_nil]; (repeat' split) <;> first | (exfalso; omega) | rfl | (apply List.getElem?_eq_none; simp only [List.length_cons, List.length_nil]; omega))) (fun d h' ⟨_, e⟩ => by subst e; simp) ?_
  rintro _ _ ⟨rfl, rfl⟩ _
  cases ok with
  | false =>
    iterate 3 ((try (refine drv_sound (n := 12) (rs := _) Try.func5 mo rfl _ _ _ ?_; simp (maxSteps := 10000000) (maxDischargeDepth := 300) only [go_sem, reduceIte, reduceCtorEq, Nat.reduceAdd, Nat.reduceMul, Nat.reduceSub, Nat.reduceEqDiff, Nat.reduceBEq, Nat.reduceLT, Int.reduceToNat, Int.reduceLE, Int.reduceLT, Nat.reduceLeDiff, Pg.cells, Ex.cells, St1.cells, isI, I64, Ex.cellsL_length, Ex.cellsL_get, St1.cellsL_length, St1.cellsL_get, Mm.cells, trD])); (try ((with_reducible refine And.intro ?_ ?_) <;> (repeat' with_reducible apply And.intro) <;> (try first | omega | (simp only [InK]; omega) | (intro k e; cases e; rfl) | (intro hguard; exact ⟨hguard, by simp only [InK]; omega⟩) | kernel_rfl))))
    refine XK.gplain 3 false true (fun _ => hms) ok10 ?_ (by first | (intro j hj; rfl) | ((repeat (first | exact frL (by simp) | exact frO | refine frU ?_ (by simp only [wkey]; omega))); done) | (intro j hj; simp only [upd, wkey, hpL, hOf, List.getElem?_nil]; (repeat rw [if_neg (by omega)]); done) | (intro j hj; simp only [upd, wkey, hpL, hOf, List.getElem?_nil]; (repeat' split) <;> first | (exfalso; omega) | rfl | (apply List.getElem?_eq_none; simp only [List.length_cons, List.length_nil]; omega)))
    iterate 3 ((try (refine drv_sound (n := 12) (rs := _) Try.func5 mo rfl _ _ _ ?_; simp (maxSteps := 10000000) (maxDischargeDepth := 300) only [go_sem, reduceIte, reduceCtorEq, Nat.reduceAdd, Nat.reduceMul, Nat.reduceSub, Nat.reduceEqDiff, Nat.reduceBEq, Nat.reduceLT, Int.reduceToNat, Int.reduceLE, Int.reduceLT, Nat.reduceLeDiff, Pg.cells, Ex.cells, St1.cells, isI, I64, Ex.cellsL_length, Ex.cellsL_get, St1.cellsL_length, St1.cellsL_get, Mm.cells, trD])); (try ((with_reducible refine And.intro ?_ ?_) <;> (repeat' with_reducible apply And.intro) <;> (try first | omega | (simp only [InK]; omega) | (intro k e; cases e; rfl) | (intro hguard; exact ⟨hguard, by simp only [InK]; omega⟩) | kernel_rfl))))
    refine XK.gplain 9 false true (fun _ => hts) ok11 ?_ (by first | (intro j hj; rfl) | ((repeat (first | exact frL (by simp) | exact frO | refine frU ?_ (by simp only [wkey]; omega))); done) | (intro j hj; simp only [upd, wkey, hpL, hOf, List.getElem?_nil]; (repeat rw [if_neg (by omega)]); done) | (intro j hj; simp only [upd, wkey, hpL, hOf, List.getElem?_nil]; (repeat' split) <;> first | (exfalso; omega) | rfl | (apply List.getElem?_eq_none; simp only [List.length_cons, List.length_nil]; omega)))
    iterate 3 ((try (refine drv_sound (n := 12) (rs := _) Try.func5 mo rfl _ _ _ ?_; simp (maxSteps := 10000000) (maxDischargeDepth := 300) only [go_sem, reduceIte, reduceCtorEq, Nat.reduceAdd, Nat.reduceMul, Nat.reduceSub, Nat.reduceEqDiff, Nat.reduceBEq, Nat.reduceLT, Int.reduceToNat, Int.reduceLE, Int.reduceLT, Nat.reduceLeDiff, Pg.cells, Ex.cells, St1.cells, isI, I64, Ex.cellsL_length, Ex.cellsL_get, St1.cellsL_length, St1.cellsL_get, Mm.cells, trD])); (try ((with_reducible refine And.intro ?_ ?_) <;> (repeat' with_reducible apply And.intro) <;> (try first | omega | (simp only [InK]; omega) | (intro k e; cases e; rfl) | (intro hguard; exact ⟨hguard, by simp only [InK]; omega⟩) | kernel_rfl))))
    refine XK.gplain 3 true true (fun _ => hms) ok10 ?_ (by first | (intro j hj; rfl) | ((repeat (first | exact frL (by simp) | exact frO | refine frU ?_ (by simp only [wkey]; omega))); done) | (intro j hj; simp only [upd, wkey, hpL, hOf, List.getElem?_nil]; (repeat rw [if_neg (by omega)]); done) | (intro j hj; simp only [upd, wkey, hpL, hOf, List.getElem?_nil]; (repeat' split) <;> first | (exfalso; omega) | rfl | (apply List.getElem?_eq_none; simp only [List.length_cons, List.length_nil]; omega)))
    iterate 3 ((try (refine drv_sound (n := 12) (rs := _) Try.func5 mo rfl _ _ _ ?_; simp (maxSteps := 10000000) (maxDischargeDepth := 300) only [go_sem, reduceIte, reduceCtorEq, Nat.reduceAdd, Nat.reduceMul, Nat.reduceSub, Nat.reduceEqDiff, Nat.reduceBEq, Nat.reduceLT, Int.reduceToNat, Int.reduceLE, Int.reduceLT, Nat.reduceLeDiff, Pg.cells, Ex.cells, St1.cells, isI, I64, Ex.cellsL_length, Ex.cellsL_get, St1.cellsL_length, St1.cellsL_get, Mm.cells, trD])); (try ((with_reducible refine And.intro ?_ ?_) <;> (repeat' with_reducible apply And.intro) <;> (try first | omega | (simp only [InK]; omega) | (intro k e; cases e; rfl) | (intro hguard; exact ⟨hguard, by simp only [InK]; omega⟩) | kernel_rfl))))
    refine XK.gplain 8 true true (fun _ => hts) ok11 ?_ (by first | (intro j hj; rfl) | ((repeat (first | exact frL (by simp) | exact frO | refine frU ?_ (by simp only [wkey]; omega))); done) | (intro j hj; simp only [upd, wkey, hpL, hOf, List.getElem?_nil]; (repeat rw [if_neg (by omega)]); done) | (intro j hj; simp only [upd, wkey, hpL, hOf, List.getElem?_nil]; (repeat' split) <;> first | (exfalso; omega) | rfl | (apply List.getElem?_eq_none; simp only [List.length_cons, List.length_nil]; omega)))
    iterate 3 ((try (refine drv_sound (n := 12) (rs := _) Try.func5 mo rfl _ _ _ ?_; simp (maxSteps := 10000000) (maxDischargeDepth := 300) only [go_sem, reduceIte, reduceCtorEq, Nat.reduceAdd, Nat.reduceMul, Nat.reduceSub, Nat.reduceEqDiff, Nat.reduceBEq, Nat.reduceLT, Int.reduceToNat, Int.reduceLE, Int.reduceLT, Nat.reduceLeDiff, Pg.cells, Ex.cells, St1.cells, isI, I64, Ex.cellsL_length, Ex.cellsL_get, St1.cellsL_length, St1.cellsL_get, Mm.cells, trD])); (try ((with_reducible refine And.intro ?_ ?_) <;> (repeat' with_reducible apply And.intro) <;> (try first | omega | (simp only [InK]; omega) | (intro k e; cases e; rfl) | (intro hguard; exact ⟨hguard, by simp only [InK]; omega⟩) | kernel_rfl))))
    exact ret _
  | true =>
    obtain ⟨hk1, hk2⟩ := hok rfl
    obtain ⟨m1, t1, m2, t2, e1, e2, e3⟩ := hseq hk1 hk2
    simp only [Prod.mk.injEq, and_true] at e3
    obtain ⟨rfl, rfl⟩ := e3
    have hrA := hrJ (bd.take (ms.length % (bd.length + 1))) ⟨va, arr⟩
    have hrB := hrJ (bd.drop (ms.length % (bd.length + 1))) m1
    have hs1 := runP_sm ⟨vs, ar, bd.take (ms.length % (bd.length + 1))⟩ ⟨va, arr⟩
    have hs2 := runP_sm ⟨vs, ar, bd.drop (ms.length % (bd.length + 1))⟩ m1
    rw [e1] at hrA hs1
    rw [e2] at hrB hs2
    simp only at hs1 hs2
    have hl1 := hs1.2.2.2
    have hl2 := hs2.2.2.2
    have hkk : ((ms.length : Int) % ((bd.length : Int) + 1)) = ((ms.length % (bd.length + 1) : Nat) : Int) := by rw [Int.natCast_emod]; rfl
    have hkb : ms.length % (bd.length + 1) ≤ bd.length := by have := Nat.mod_lt ms.length (show 0 < bd.length + 1 by omega); omega
    have hta := take_all bd (ms.length % (bd.length + 1))
    generalize ms.length % (bd.length + 1) = k at *
    obtain ⟨v1, a1⟩ := m1
    iterate 3 ((try (refine drv_sound (n := 12) (rs := _) Try.func5 mo rfl _ _ _ ?_; simp (maxSteps := 10000000) (maxDischargeDepth := 300) only [go_sem, reduceIte, reduceCtorEq, Nat.reduceAdd, Nat.reduceMul, Nat.reduceSub, Nat.reduceEqDiff, Nat.reduceBEq, Nat.reduceLT, Int.reduceToNat, Int.reduceLE, Int.reduceLT, Nat.reduceLeDiff, Pg.cells, Ex.cells, St1.cells, isI, I64, Ex.cellsL_length, Ex.cellsL_get, St1.cellsL_length, St1.cellsL_get, Mm.cells, trD])); (try ((with_reducible refine And.intro ?_ ?_) <;> (repeat' with_reducible apply And.intro) <;> (try first | omega | (simp only [InK]; omega) | (intro k e; cases e; rfl) | (intro hguard; exact ⟨hguard, by simp only [InK]; omega⟩) | kernel_rfl))))
    refine XK.gplain 3 false true (fun _ => hms) ok10 ?_ (by first | (intro j hj; rfl) | ((repeat (first | exact frL (by simp) | exact frO | refine frU ?_ (by simp only [wkey]; omega))); done) | (intro j hj; simp only [upd, wkey, hpL, hOf, List.getElem?_nil]; (repeat rw [if_neg (by omega)]); done) | (intro j hj; simp only [upd, wkey, hpL, hOf, List.getElem?_nil]; (repeat' split) <;> first | (exfalso; omega) | rfl | (apply List.getElem?_eq_none; simp only [List.length_cons, List.length_nil]; omega)))
    iterate 3 ((try (refine drv_sound (n := 12) (rs := _) Try.func5 mo rfl _ _ _ ?_; simp (maxSteps := 10000000) (maxDischargeDepth := 300) only [go_sem, reduceIte, reduceCtorEq, Nat.reduceAdd, Nat.reduceMul, Nat.reduceSub, Nat.reduceEqDiff, Nat.reduceBEq, Nat.reduceLT, Int.reduceToNat, Int.reduceLE, Int.reduceLT, Nat.reduceLeDiff, Pg.cells, Ex.cells, St1.cells, isI, I64, Ex.cellsL_length, Ex.cellsL_get, St1.cellsL_length, St1.cellsL_get, Mm.cells, trD])); (try ((with_reducible refine And.intro ?_ ?_) <;> (repeat' with_reducible apply And.intro) <;> (try first | omega | (simp only [InK]; omega) | (intro k e; cases e; rfl) | (intro hguard; exact ⟨hguard, by simp only [InK]; omega⟩) | kernel_rfl))))
    refine XK.gplain 9 false true (fun _ => hts) ok11 ?_ (by first | (intro j hj; rfl) | ((repeat (first | exact frL (by simp) | exact frO | refine frU ?_ (by simp only [wkey]; omega))); done) | (intro j hj; simp only [upd, wkey, hpL, hOf, List.getElem?_nil]; (repeat rw [if_neg (by omega)]); done) | (intro j hj; simp only [upd, wkey, hpL, hOf, List.getElem?_nil]; (repeat' split) <;> first | (exfalso; omega) | rfl | (apply List.getElem?_eq_none; simp only [List.length_cons, List.length_nil]; omega)))
    iterate 5 ((try (refine drv_sound (n := 12) (rs := _) Try.func5 mo rfl _ _ _ ?_; simp (maxSteps := 10000000) (maxDischargeDepth := 300) only [go_sem, reduceIte, reduceCtorEq, Nat.reduceAdd, Nat.reduceMul, Nat.reduceSub, Nat.reduceEqDiff, Nat.reduceBEq, Nat.reduceLT, Int.reduceToNat, Int.reduceLE, Int.reduceLT, Nat.reduceLeDiff, Pg.cells, Ex.cells, St1.cells, isI, I64, Ex.cellsL_length, Ex.cellsL_get, St1.cellsL_length, St1.cellsL_get, Mm.cells, trD, bne_self_eq_false, hkk, cellsL_take, cellsL_drop, hta])); (try ((with_reducible refine And.intro ?_ ?_) <;> (repeat' with_reducible apply And.intro) <;> (try first | omega | (simp only [InK]; omega) | (intro k e; cases e; rfl) | (intro hguard; exact ⟨hguard, by simp only [InK]; omega⟩) | kernel_rfl))))
    refine XK.callG [] hrA ok8 (fun i' x h => by simp at h) (by first | (intro j hj; rfl) | ((repeat (first | exact frL (by simp) | exact frO | refine frU ?_ (by simp only [wkey]; omega))); done) | (intro j hj; simp only [upd, wkey, hpL, hOf, List.getElem?_nil]; (repeat rw [if_neg (by omega)]); done) | (intro j hj; simp only [upd, wkey, hpL, hOf, List.getElem?_nil]; (repeat' split) <;> first | (exfalso; omega) | rfl | (apply List.getElem?_eq_none; simp only [List.length_cons, List.length_nil]; omega))) (fun d h' ⟨_, e⟩ => by subst e; simp) ?_ (fun _ => ⟨by kernel_rfl, _, _, ⟨rfl, rfl⟩, by simp⟩)
    rintro _ _ ⟨rfl, rfl⟩ _
    iterate 5 ((try (refine drv_sound (n := 12) (rs := _) Try.func5 mo rfl _ _ _ ?_; simp (maxSteps := 10000000) (maxDischargeDepth := 300) only [go_sem, reduceIte, reduceCtorEq, Nat.reduceAdd, Nat.reduceMul, Nat.reduceSub, Nat.reduceEqDiff, Nat.reduceBEq, Nat.reduceLT, Int.reduceToNat, Int.reduceLE, Int.reduceLT, Nat.reduceLeDiff, Pg.cells, Ex.cells, St1.cells, isI, I64, Ex.cellsL_length, Ex.cellsL_get, St1.cellsL_length, St1.cellsL_get, Mm.cells, trD, bne_self_eq_false, hkk, cellsL_take, cellsL_drop, hta])); (try ((with_reducible refine And.intro ?_ ?_) <;> (repeat' with_reducible apply And.intro) <;> (try first | omega | (simp only [InK]; omega) | (intro k e; cases e; rfl) | (intro hguard; exact ⟨hguard, by simp only [InK]; omega⟩) | kernel_rfl))))
    refine XK.callG [] hrB ok8 (fun i' x h => by simp at h) (by first | (intro j hj; rfl) | ((repeat (first | exact frL (by simp) | exact frO | refine frU ?_ (by simp only [wkey]; omega))); done) | (intro j hj; simp only [upd, wkey, hpL, hOf, List.getElem?_nil]; (repeat rw [if_neg (by omega)]); done) | (intro j hj; simp only [upd, wkey, hpL, hOf, List.getElem?_nil]; (repeat' split) <;> first | (exfalso; omega) | rfl | (apply List.getElem?_eq_none; simp only [List.length_cons, List.length_nil]; omega))) (fun d h' ⟨_, e⟩ => by subst e; simp) ?_ (fun _ => ⟨by kernel_rfl, _, _, ⟨rfl, rfl⟩, by simp⟩)
    rintro _ _ ⟨rfl, rfl⟩ _
    iterate 5 ((try (refine drv_sound (n := 12) (rs := _) Try.func5 mo rfl _ _ _ ?_; simp (maxSteps := 10000000) (maxDischargeDepth := 300) only [go_sem, reduceIte, reduceCtorEq, Nat.reduceAdd, Nat.reduceMul, Nat.reduceSub, Nat.reduceEqDiff, Nat.reduceBEq, Nat.reduceLT, Int.reduceToNat, Int.reduceLE, Int.reduceLT, Nat.reduceLeDiff, Pg.cells, Ex.cells, St1.cells, isI, I64, Ex.cellsL_length, Ex.cellsL_get, St1.cellsL_length, St1.cellsL_get, Mm.cells, trD, bne_self_eq_false, hkk, cellsL_take, cellsL_drop, hta])); (try ((with_reducible refine And.intro ?_ ?_) <;> (repeat' with_reducible apply And.intro) <;> (try first | omega | (simp only [InK]; omega) | (intro k e; cases e; rfl) | (intro hguard; exact ⟨hguard, by simp only [InK]; omega⟩) | kernel_rfl))))
    refine XK.gplain 4 true true (fun _ => hms) ok10 ?_ (by first | (intro j hj; rfl) | ((repeat (first | exact frL (by simp) | exact frO | refine frU ?_ (by simp only [wkey]; omega))); done) | (intro j hj; simp only [upd, wkey, hpL, hOf, List.getElem?_nil]; (repeat rw [if_neg (by omega)]); done) | (intro j hj; simp only [upd, wkey, hpL, hOf, List.getElem?_nil]; (repeat' split) <;> first | (exfalso; omega) | rfl | (apply List.getElem?_eq_none; simp only [List.length_cons, List.length_nil]; omega)))
    iterate 5 ((try (refine drv_sound (n := 12) (rs := _) Try.func5 mo rfl _ _ _ ?_; simp (maxSteps := 10000000) (maxDischargeDepth := 300) only [go_sem, reduceIte, reduceCtorEq, Nat.reduceAdd, Nat.reduceMul, Nat.reduceSub, Nat.reduceEqDiff, Nat.reduceBEq, Nat.reduceLT, Int.reduceToNat, Int.reduceLE, Int.reduceLT, Nat.reduceLeDiff, Pg.cells, Ex.cells, St1.cells, isI, I64, Ex.cellsL_length, Ex.cellsL_get, St1.cellsL_length, St1.cellsL_get, Mm.cells, trD, bne_self_eq_false, trF_len])); (try ((with_reducible refine And.intro ?_ ?_) <;> (repeat' with_reducible apply And.intro) <;> (try first | omega | (simp only [InK]; omega) | (intro k e; cases e; rfl) | (intro hguard; exact ⟨hguard, by simp only [InK]; omega⟩) | kernel_rfl))))
    refine XK.freeze 130 7616 2 _ ((t1 ++ t2).map Ev.cells) ?_ (by rw [← trD_app]; rfl) rfl (by simp) (by intro y hy; obtain ⟨e, _, rfl⟩ := List.mem_map.1 hy; rfl) (by intro y hy c hc; obtain ⟨e, _, rfl⟩ := List.mem_map.1 hy; simp [Ev.cells] at hc; rcases hc with rfl | rfl <;> rfl)
    refine XK.gplain 9 true true (fun _ => hts) ok11 ?_ (by first | (intro j hj; rfl) | ((repeat (first | exact frL (by simp) | exact frO | refine frU ?_ (by simp only [wkey]; omega))); done) | (intro j hj; simp only [upd, wkey, hpL, hOf, List.getElem?_nil]; (repeat rw [if_neg (by omega)]); done) | (intro j hj; simp only [upd, wkey, hpL, hOf, List.getElem?_nil]; (repeat' split) <;> first | (exfalso; omega) | rfl | (apply List.getElem?_eq_none; simp only [List.length_cons, List.length_nil]; omega)))
    iterate 3 ((try (refine drv_sound (n := 12) (rs := _) Try.func5 mo rfl _ _ _ ?_; simp (maxSteps := 10000000) (maxDischargeDepth := 300) only [go_sem, reduceIte, reduceCtorEq, Nat.reduceAdd, Nat.reduceMul, Nat.reduceSub, Nat.reduceEqDiff, Nat.reduceBEq, Nat.reduceLT, Int.reduceToNat, Int.reduceLE, Int.reduceLT, Nat.reduceLeDiff, Pg.cells, Ex.cells, St1.cells, isI, I64, Ex.cellsL_length, Ex.cellsL_get, St1.cellsL_length, St1.cellsL_get, Mm.cells, trD, bne_self_eq_false, trF_len])); (try ((with_reducible refine And.intro ?_ ?_) <;> (repeat' with_reducible apply And.intro) <;> (try first | omega | (simp only [InK]; omega) | (intro k e; cases e; rfl) | (intro hguard; exact ⟨hguard, by simp only [InK]; omega⟩) | kernel_rfl))))
    exact ret _
end Go.Proofs.Ytajamdnbncploaa.CtD
