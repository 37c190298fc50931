/- Contracts of functions of the program, one behind the other, as plain data: what each call returns and which blocks it leaves. -/
import Derived.Test.YtclgjiffpijgmaaFacts
import Derived.Test.YtclgjiffpijgmaaCtC
import Derived.Test.YtclgjiffpijgmaaVa
import Derived.Test.YtclgjiffpijgmaaVb
import Derived.Test.YtclgjiffpijgmaaVc
import Derived.Test.YtclgjiffpijgmaaRc
import Derived.Test.YtclgjiffpijgmaaDc
import Derived.Test.YtclgjiffpijgmaaWa
set_option linter.unusedVariables false
set_option linter.unusedSimpArgs false
namespace Go.Proofs.Ytclgjiffpijgmaa.CtD
open Go Go.CT CtF CtR

set_option maxHeartbeats 4000000 in
set_option maxRecDepth 10000 in
theorem ctInts (xs ys : List Int) (hl : xs.length ≤ mx) : DC Try.prog 27 [ints xs, ints ys] [] (fun r h => r = DB (decide (xs = ys)) ∧ h = []) := by
  have hmx := mx_eq
  have ret : ∀ (b : Bool) (hp : Hp), b = decide (xs = ys) → RetOb 0 (fun r h => r = DB (decide (xs = ys)) ∧ h = []) (DB b) hp := fun b hp h => RetOb.plain (d := DB _) ⟨by rw [h], rfl⟩ rfl
  by_cases hlen : xs.length = ys.length
  · have hb : ((xs.length : Int) != ys.length) = false := by simp [hlen]
    have he : ((xs.length : Int) = ys.length) = True := eq_true (by omega)
    refine dc_of_go Try.func27 rfl (by simp) ?_
    refine drv_sound (n := 100) (rs := _) Try.func27 mo rfl none _ _ ?_
    simp (maxSteps := 10000000) (maxDischargeDepth := 300) only [go_sem, reduceIte, reduceCtorEq, Nat.reduceAdd, Nat.reduceMul, Nat.reduceSub, Nat.reduceEqDiff, Nat.reduceBEq, Nat.reduceLT, Int.reduceToNat, Int.reduceLE, Int.reduceLT, Nat.reduceLeDiff, ints, hb, he]
    refine Go.loopL (fun i : Nat => [(0, ints xs), (1, ints ys), (5, DI .i64 i)]) (fun _ => []) 1024 (fun i => i ≤ xs.length ∧ decide (xs = ys) = decide (xs.drop i = ys.drop i)) (fun i => xs.length - i) ?_ 0 some [] _ ⟨Nat.zero_le _, rfl⟩ ?_
    · intro i hi again
      refine drv_sound (n := 100) (rs := _) Try.func27 mo rfl none _ _ ?_
      rcases Nat.lt_or_ge i xs.length with hlt | hge
      · obtain ⟨x, hx⟩ : ∃ x, xs[i]? = some x := ⟨xs[i], by simp [hlt]⟩
        obtain ⟨y, hy⟩ : ∃ y, ys[i]? = some y := ⟨ys[i]'(by omega), by simp⟩
        have hI := hi.2
        obtain ⟨_, ex⟩ := List.getElem?_eq_some_iff.1 hx
        obtain ⟨hyl, ey⟩ := List.getElem?_eq_some_iff.1 hy
        rw [List.drop_eq_getElem_cons hlt, List.drop_eq_getElem_cons hyl, ex, ey] at hI
        simp (maxSteps := 10000000) (maxDischargeDepth := 300) only [go_sem, reduceIte, reduceCtorEq, Nat.reduceAdd, Nat.reduceMul, Nat.reduceSub, Nat.reduceEqDiff, Nat.reduceBEq, Nat.reduceLT, Int.reduceToNat, Int.reduceLE, Int.reduceLT, Nat.reduceLeDiff, ints, hx, hy, hlt]
        (repeat' with_reducible apply And.intro) <;> (try first | omega | (simp only [InK]; omega) | (intro k e; cases e; rfl) | (intro hguard; exact ⟨hguard, by simp only [InK]; omega⟩) | kernel_rfl)
        · intro hne; exact ret _ _ (by rw [hI]; simp [hne])
        · intro heq; exact ⟨by simp only [InK]; omega, again (i + 1) some [] _ ⟨by omega, by rw [hI]; simp [heq]⟩ (by omega) (Mt.slots (by
            simp (maxSteps := 10000000) (maxDischargeDepth := 300) only [go_sem, reduceIte, reduceCtorEq, Nat.reduceAdd, Nat.reduceMul, Nat.reduceSub, Nat.reduceEqDiff, Nat.reduceBEq, Nat.reduceLT, Int.reduceToNat, Int.reduceLE, Int.reduceLT, Nat.reduceLeDiff, TmOK, DM, DMs, CM, CMs, forall_eq, exists_eq_left, ints]))⟩
      · have hn : ¬ i < xs.length := by omega
        simp (maxSteps := 10000000) (maxDischargeDepth := 300) only [go_sem, reduceIte, reduceCtorEq, Nat.reduceAdd, Nat.reduceMul, Nat.reduceSub, Nat.reduceEqDiff, Nat.reduceBEq, Nat.reduceLT, Int.reduceToNat, Int.reduceLE, Int.reduceLT, Nat.reduceLeDiff, ints, hn]
        refine ret _ _ ?_
        rw [hi.2, List.drop_of_length_le hge, List.drop_of_length_le (by omega)]; rfl
    · refine Mt.slots ?_
      simp (maxSteps := 10000000) (maxDischargeDepth := 300) only [go_sem, reduceIte, reduceCtorEq, Nat.reduceAdd, Nat.reduceMul, Nat.reduceSub, Nat.reduceEqDiff, Nat.reduceBEq, Nat.reduceLT, Int.reduceToNat, Int.reduceLE, Int.reduceLT, Nat.reduceLeDiff, TmOK, DM, DMs, CM, CMs, forall_eq, exists_eq_left, ints]
  · have hb : ((xs.length : Int) != ys.length) = true := by simp; omega
    have he : ((xs.length : Int) = ys.length) = False := eq_false (by omega)
    refine dc_of_go Try.func27 rfl (by simp) ?_
    refine drv_sound (n := 100) (rs := _) Try.func27 mo rfl none _ _ ?_
    simp (maxSteps := 10000000) (maxDischargeDepth := 300) only [go_sem, reduceIte, reduceCtorEq, Nat.reduceAdd, Nat.reduceMul, Nat.reduceSub, Nat.reduceEqDiff, Nat.reduceBEq, Nat.reduceLT, Int.reduceToNat, Int.reduceLE, Int.reduceLT, Nat.reduceLeDiff, ints, hb, he]
    refine ret _ _ ?_
    symm; rw [decide_eq_false_iff_not]; intro h; exact hlen (by rw [h])

set_option maxHeartbeats 8000000 in
set_option maxRecDepth 10000 in
theorem lawRW (bs : List Int) (hb : Fits .u8 bs) (hl : bs.length ≤ mx) : DC Try.prog 8 [bytesD bs] [] (fun d h => d = DB true ∧ h = []) := by
  have hmx := mx_eq
  have hdm := drawRunProgram bs hb hl
  unfold bytesD
  unfold bytesD at hdm
  have ret : ∀ hp : Hp, RetOb 0 (fun d h => d = DB true ∧ h = []) (DB true) hp := fun hp => RetOb.plain (d := DB true) ⟨rfl, rfl⟩ rfl
  generalize (fun (d : D) (h : List (Option (List C))) => d = DB true ∧ h = []) = R at *
  by_cases hbig : 1048576 < bs.length
  · have hz : ((1048576 : Int) < (bs.length : Int)) = True := eq_true (by omega)
    refine dc_of_go Try.func8 rfl (by simp) ?_
    refine drv_sound (n := 12) (rs := _) Try.func8 mo rfl none _ _ ?_
    simp (maxSteps := 10000000) (maxDischargeDepth := 300) only [go_sem, reduceIte, reduceCtorEq, Nat.reduceAdd, Nat.reduceMul, Nat.reduceSub, Nat.reduceEqDiff, Nat.reduceBEq, Nat.reduceLT, Int.reduceToNat, Int.reduceLE, Int.reduceLT, Nat.reduceLeDiff, hz]
    iterate 2 ((try (refine drv_sound (n := 12) (rs := _) Try.func8 mo rfl _ _ _ ?_; simp (maxSteps := 10000000) (maxDischargeDepth := 300) only [go_sem, reduceIte, reduceCtorEq, Nat.reduceAdd, Nat.reduceMul, Nat.reduceSub, Nat.reduceEqDiff, Nat.reduceBEq, Nat.reduceLT, Int.reduceToNat, Int.reduceLE, Int.reduceLT, Nat.reduceLeDiff, hz])); (try ((with_reducible refine And.intro ?_ ?_) <;> (repeat' with_reducible apply And.intro) <;> (try first | omega | (simp only [InK]; omega) | (intro k e; cases e; rfl) | (intro hguard; exact ⟨hguard, by simp only [InK]; omega⟩) | kernel_rfl))))
    exact ret _
  have hz : ((1048576 : Int) < (bs.length : Int)) = False := eq_false (by omega)
  refine dc_of_go Try.func8 rfl (by simp) ?_
  refine drv_sound (n := 12) (rs := _) Try.func8 mo rfl none _ _ ?_
  simp (maxSteps := 10000000) (maxDischargeDepth := 300) only [go_sem, reduceIte, reduceCtorEq, Nat.reduceAdd, Nat.reduceMul, Nat.reduceSub, Nat.reduceEqDiff, Nat.reduceBEq, Nat.reduceLT, Int.reduceToNat, Int.reduceLE, Int.reduceLT, Nat.reduceLeDiff, hz]
  iterate 2 ((try (refine drv_sound (n := 12) (rs := _) Try.func8 mo rfl _ _ _ ?_; simp (maxSteps := 10000000) (maxDischargeDepth := 300) only [go_sem, reduceIte, reduceCtorEq, Nat.reduceAdd, Nat.reduceMul, Nat.reduceSub, Nat.reduceEqDiff, Nat.reduceBEq, Nat.reduceLT, Int.reduceToNat, Int.reduceLE, Int.reduceLT, Nat.reduceLeDiff, hz])); (try ((with_reducible refine And.intro ?_ ?_) <;> (repeat' with_reducible apply And.intro) <;> (try first | omega | (simp only [InK]; omega) | (intro k e; cases e; rfl) | (intro hguard; exact ⟨hguard, by simp only [InK]; omega⟩) | kernel_rfl))))
  refine XK.callG [] hdm ok28 (fun i' x h => by simp at h) (by first | (intro j hj; rfl) | ((repeat (first | exact frL (by simp) | exact frO | refine frU ?_ (by simp only [wkey]; omega))); done) | (intro j hj; simp only [upd, wkey, hpL, hOf, List.getElem?_nil]; (repeat rw [if_neg (by omega)]); done) | (intro j hj; simp only [upd, wkey, hpL, hOf, List.getElem?_nil]; (repeat' split) <;> first | (exfalso; omega) | rfl | (apply List.getElem?_eq_none; simp only [List.length_cons, List.length_nil]; omega))) (fun d h' ⟨_, _, _, _, _, e⟩ => by subst e; simp) ?_
  rintro _ _ ⟨⟨vs, ar, bd⟩, m, rfl, hp, hm, rfl⟩ _
  have hv1 : vs.length ≤ 13 := hp.nv
  have ha1 : ar.length ≤ 2 := hp.na
  have hb1 : bd.length ≤ 4 := hp.nb
  have hrI := runProgI ⟨vs, ar, bd⟩ m (by simp only; omega) (by simp only; omega)
  have hrS := runProgS ⟨vs, ar, bd⟩ m (by simp only; omega) (by simp only; omega) (by have := hp.sz 5; simp only at this ⊢; omega)
  have hpw := programWrites ⟨vs, ar, bd⟩ (by simp only; omega) (by simp only; omega)
  have hsm := runP_sm ⟨vs, ar, bd⟩ m
  have hok := @runP_ok ⟨vs, ar, bd⟩ m
  have hwr := fun h1 h2 => @run_writes ⟨vs, ar, bd⟩ m h1 h2
  have hrp := fun h1 h2 => @runP_of ⟨vs, ar, bd⟩ m h1 h2
  have hmo := fun h1 h2 => @runP_out ⟨vs, ar, bd⟩ m h1 h2
  generalize hq1 : runP ⟨vs, ar, bd⟩ m = q1 at *
  obtain ⟨x, tr, ok⟩ := q1
  simp only at hsm hok
  have hms := memorySame x x (by omega) (by omega) (fun a h => by have := hsm.2.2.1 a h; omega)
  rw [memSame_refl] at hms
  have hts := traceSame tr tr (by omega)
  rw [trSame_refl] at hts
  obtain ⟨va, arr⟩ := m
  obtain ⟨vx, ax⟩ := x
  iterate 3 ((try (refine drv_sound (n := 12) (rs := _) Try.func8 mo rfl _ _ _ ?_; simp (maxSteps := 10000000) (maxDischargeDepth := 300) only [go_sem, reduceIte, reduceCtorEq, Nat.reduceAdd, Nat.reduceMul, Nat.reduceSub, Nat.reduceEqDiff, Nat.reduceBEq, Nat.reduceLT, Int.reduceToNat, Int.reduceLE, Int.reduceLT, Nat.reduceLeDiff, Pg.cells, Ex.cells, St1.cells, isI, I64, Ex.cellsL_length, Ex.cellsL_get, St1.cellsL_length, St1.cellsL_get, Mm.cells])); (try ((with_reducible refine And.intro ?_ ?_) <;> (repeat' with_reducible apply And.intro) <;> (try first | omega | (simp only [InK]; omega) | (intro k e; cases e; rfl) | (intro hguard; exact ⟨hguard, by simp only [InK]; omega⟩) | kernel_rfl))))
  refine XK.callG [] hrI ok22 (fun i' x h => by simp at h) (by first | (intro j hj; rfl) | ((repeat (first | exact frL (by simp) | exact frO | refine frU ?_ (by simp only [wkey]; omega))); done) | (intro j hj; simp only [upd, wkey, hpL, hOf, List.getElem?_nil]; (repeat rw [if_neg (by omega)]); done) | (intro j hj; simp only [upd, wkey, hpL, hOf, List.getElem?_nil]; (repeat' split) <;> first | (exfalso; omega) | rfl | (apply List.getElem?_eq_none; simp only [List.length_cons, List.length_nil]; omega))) (fun d h' ⟨_, e⟩ => by subst e; simp) ?_
  rintro _ _ ⟨rfl, rfl⟩ _
  iterate 3 ((try (refine drv_sound (n := 12) (rs := _) Try.func8 mo rfl _ _ _ ?_; simp (maxSteps := 10000000) (maxDischargeDepth := 300) only [go_sem, reduceIte, reduceCtorEq, Nat.reduceAdd, Nat.reduceMul, Nat.reduceSub, Nat.reduceEqDiff, Nat.reduceBEq, Nat.reduceLT, Int.reduceToNat, Int.reduceLE, Int.reduceLT, Nat.reduceLeDiff, Pg.cells, Ex.cells, St1.cells, isI, I64, Ex.cellsL_length, Ex.cellsL_get, St1.cellsL_length, St1.cellsL_get, Mm.cells, trD])); (try ((with_reducible refine And.intro ?_ ?_) <;> (repeat' with_reducible apply And.intro) <;> (try first | omega | (simp only [InK]; omega) | (intro k e; cases e; rfl) | (intro hguard; exact ⟨hguard, by simp only [InK]; omega⟩) | kernel_rfl))))
  refine XK.callG [] hrS ok29 (fun i' x h => by simp at h) (by first | (intro j hj; rfl) | ((repeat (first | exact frL (by simp) | exact frO | refine frU ?_ (by simp only [wkey]; omega))); done) | (intro j hj; simp only [upd, wkey, hpL, hOf, List.getElem?_nil]; (repeat rw [if_neg (by omega)]); done) | (intro j hj; simp only [upd, wkey, hpL, hOf, List.getElem?_nil]; (repeat' split) <;> first | (exfalso; omega) | rfl | (apply List.getElem?_eq_none; simp only [List.length_cons, List.length_nil]; omega))) (fun d h' ⟨_, e⟩ => by subst e; simp) ?_
  rintro _ _ ⟨rfl, rfl⟩ _
  cases ok with
  | false =>
    iterate 3 ((try (refine drv_sound (n := 12) (rs := _) Try.func8 mo rfl _ _ _ ?_; simp (maxSteps := 10000000) (maxDischargeDepth := 300) only [go_sem, reduceIte, reduceCtorEq, Nat.reduceAdd, Nat.reduceMul, Nat.reduceSub, Nat.reduceEqDiff, Nat.reduceBEq, Nat.reduceLT, Int.reduceToNat, Int.reduceLE, Int.reduceLT, Nat.reduceLeDiff, Pg.cells, Ex.cells, St1.cells, isI, I64, Ex.cellsL_length, Ex.cellsL_get, St1.cellsL_length, St1.cellsL_get, Mm.cells, trD])); (try ((with_reducible refine And.intro ?_ ?_) <;> (repeat' with_reducible apply And.intro) <;> (try first | omega | (simp only [InK]; omega) | (intro k e; cases e; rfl) | (intro hguard; exact ⟨hguard, by simp only [InK]; omega⟩) | kernel_rfl))))
    refine XK.gplain 3 false true (fun _ => hms) ok30 ?_ (by first | (intro j hj; rfl) | ((repeat (first | exact frL (by simp) | exact frO | refine frU ?_ (by simp only [wkey]; omega))); done) | (intro j hj; simp only [upd, wkey, hpL, hOf, List.getElem?_nil]; (repeat rw [if_neg (by omega)]); done) | (intro j hj; simp only [upd, wkey, hpL, hOf, List.getElem?_nil]; (repeat' split) <;> first | (exfalso; omega) | rfl | (apply List.getElem?_eq_none; simp only [List.length_cons, List.length_nil]; omega)))
    iterate 3 ((try (refine drv_sound (n := 12) (rs := _) Try.func8 mo rfl _ _ _ ?_; simp (maxSteps := 10000000) (maxDischargeDepth := 300) only [go_sem, reduceIte, reduceCtorEq, Nat.reduceAdd, Nat.reduceMul, Nat.reduceSub, Nat.reduceEqDiff, Nat.reduceBEq, Nat.reduceLT, Int.reduceToNat, Int.reduceLE, Int.reduceLT, Nat.reduceLeDiff, Pg.cells, Ex.cells, St1.cells, isI, I64, Ex.cellsL_length, Ex.cellsL_get, St1.cellsL_length, St1.cellsL_get, Mm.cells, trD])); (try ((with_reducible refine And.intro ?_ ?_) <;> (repeat' with_reducible apply And.intro) <;> (try first | omega | (simp only [InK]; omega) | (intro k e; cases e; rfl) | (intro hguard; exact ⟨hguard, by simp only [InK]; omega⟩) | kernel_rfl))))
    refine XK.gplain 9 false true (fun _ => hts) ok23 ?_ (by first | (intro j hj; rfl) | ((repeat (first | exact frL (by simp) | exact frO | refine frU ?_ (by simp only [wkey]; omega))); done) | (intro j hj; simp only [upd, wkey, hpL, hOf, List.getElem?_nil]; (repeat rw [if_neg (by omega)]); done) | (intro j hj; simp only [upd, wkey, hpL, hOf, List.getElem?_nil]; (repeat' split) <;> first | (exfalso; omega) | rfl | (apply List.getElem?_eq_none; simp only [List.length_cons, List.length_nil]; omega)))
    iterate 3 ((try (refine drv_sound (n := 12) (rs := _) Try.func8 mo rfl _ _ _ ?_; simp (maxSteps := 10000000) (maxDischargeDepth := 300) only [go_sem, reduceIte, reduceCtorEq, Nat.reduceAdd, Nat.reduceMul, Nat.reduceSub, Nat.reduceEqDiff, Nat.reduceBEq, Nat.reduceLT, Int.reduceToNat, Int.reduceLE, Int.reduceLT, Nat.reduceLeDiff, Pg.cells, Ex.cells, St1.cells, isI, I64, Ex.cellsL_length, Ex.cellsL_get, St1.cellsL_length, St1.cellsL_get, Mm.cells, trD])); (try ((with_reducible refine And.intro ?_ ?_) <;> (repeat' with_reducible apply And.intro) <;> (try first | omega | (simp only [InK]; omega) | (intro k e; cases e; rfl) | (intro hguard; exact ⟨hguard, by simp only [InK]; omega⟩) | kernel_rfl))))
    refine XK.gplain 3 true true (fun _ => hms) ok30 ?_ (by first | (intro j hj; rfl) | ((repeat (first | exact frL (by simp) | exact frO | refine frU ?_ (by simp only [wkey]; omega))); done) | (intro j hj; simp only [upd, wkey, hpL, hOf, List.getElem?_nil]; (repeat rw [if_neg (by omega)]); done) | (intro j hj; simp only [upd, wkey, hpL, hOf, List.getElem?_nil]; (repeat' split) <;> first | (exfalso; omega) | rfl | (apply List.getElem?_eq_none; simp only [List.length_cons, List.length_nil]; omega)))
    iterate 3 ((try (refine drv_sound (n := 12) (rs := _) Try.func8 mo rfl _ _ _ ?_; simp (maxSteps := 10000000) (maxDischargeDepth := 300) only [go_sem, reduceIte, reduceCtorEq, Nat.reduceAdd, Nat.reduceMul, Nat.reduceSub, Nat.reduceEqDiff, Nat.reduceBEq, Nat.reduceLT, Int.reduceToNat, Int.reduceLE, Int.reduceLT, Nat.reduceLeDiff, Pg.cells, Ex.cells, St1.cells, isI, I64, Ex.cellsL_length, Ex.cellsL_get, St1.cellsL_length, St1.cellsL_get, Mm.cells, trD])); (try ((with_reducible refine And.intro ?_ ?_) <;> (repeat' with_reducible apply And.intro) <;> (try first | omega | (simp only [InK]; omega) | (intro k e; cases e; rfl) | (intro hguard; exact ⟨hguard, by simp only [InK]; omega⟩) | kernel_rfl))))
    refine XK.gplain 8 true true (fun _ => hts) ok23 ?_ (by first | (intro j hj; rfl) | ((repeat (first | exact frL (by simp) | exact frO | refine frU ?_ (by simp only [wkey]; omega))); done) | (intro j hj; simp only [upd, wkey, hpL, hOf, List.getElem?_nil]; (repeat rw [if_neg (by omega)]); done) | (intro j hj; simp only [upd, wkey, hpL, hOf, List.getElem?_nil]; (repeat' split) <;> first | (exfalso; omega) | rfl | (apply List.getElem?_eq_none; simp only [List.length_cons, List.length_nil]; omega)))
    iterate 3 ((try (refine drv_sound (n := 12) (rs := _) Try.func8 mo rfl _ _ _ ?_; simp (maxSteps := 10000000) (maxDischargeDepth := 300) only [go_sem, reduceIte, reduceCtorEq, Nat.reduceAdd, Nat.reduceMul, Nat.reduceSub, Nat.reduceEqDiff, Nat.reduceBEq, Nat.reduceLT, Int.reduceToNat, Int.reduceLE, Int.reduceLT, Nat.reduceLeDiff, Pg.cells, Ex.cells, St1.cells, isI, I64, Ex.cellsL_length, Ex.cellsL_get, St1.cellsL_length, St1.cellsL_get, Mm.cells, trD])); (try ((with_reducible refine And.intro ?_ ?_) <;> (repeat' with_reducible apply And.intro) <;> (try first | omega | (simp only [InK]; omega) | (intro k e; cases e; rfl) | (intro hguard; exact ⟨hguard, by simp only [InK]; omega⟩) | kernel_rfl))))
    exact ret _
  | true =>
    obtain ⟨hk1, hk2⟩ := hok rfl
    obtain ⟨w1, w2, w3, w4⟩ := hwr hk1 hk2
    have hrp := hrp hk1 hk2
    simp only [Prod.mk.injEq, and_true] at hrp
    have hmo := hmo hk1 hk2
    rw [← hrp.1] at hmo
    have hmf := memFits_of (p := ⟨vs, ar, bd⟩) (m := ⟨va, arr⟩) (by rw [hk1, hk2]; rfl)
    have hmf2 := memFits_of (p := ⟨vs, ar, bd⟩) (m := ⟨vx, ax⟩) (by rw [hk1, hmo]; rfl)
    have hmv := memoryValidI ⟨vs, ar, bd⟩ ⟨vx, ax⟩ (by simp only; omega) (by simp only; omega)
    have hgood : (progOK ⟨vs, ar, bd⟩ && memOK vs ar ⟨vx, ax⟩) = true := by rw [hk1]; exact hmo
    simp only [hgood] at hmv
    have n1 : va.length = vs.length := hmf.nv
    have n2 : vx.length = vs.length := hmf2.nv
    have n3 : arr.length = ar.length := hmf.na
    have n4 : ax.length = ar.length := hmf2.na
    have n5 : ∀ a ∈ ax, a.length = 4 := fun a h => (hmf2.arr a h).1
    generalize wrP ⟨vs, ar, bd⟩ = w at *
    obtain ⟨wv, wa⟩ := w
    simp only at w1 w2 w3 w4
    clear hdm hrI hrS hwr hok hrp
    iterate 3 ((try (refine drv_sound (n := 12) (rs := _) Try.func8 mo rfl _ _ _ ?_; simp (maxSteps := 10000000) (maxDischargeDepth := 300) only [go_sem, reduceIte, reduceCtorEq, Nat.reduceAdd, Nat.reduceMul, Nat.reduceSub, Nat.reduceEqDiff, Nat.reduceBEq, Nat.reduceLT, Int.reduceToNat, Int.reduceLE, Int.reduceLT, Nat.reduceLeDiff, Pg.cells, Ex.cells, St1.cells, isI, I64, Ex.cellsL_length, Ex.cellsL_get, St1.cellsL_length, St1.cellsL_get, Mm.cells, trD])); (try ((with_reducible refine And.intro ?_ ?_) <;> (repeat' with_reducible apply And.intro) <;> (try first | omega | (simp only [InK]; omega) | (intro k e; cases e; rfl) | (intro hguard; exact ⟨hguard, by simp only [InK]; omega⟩) | kernel_rfl))))
    refine XK.gplain 3 false true (fun _ => hms) ok30 ?_ (by first | (intro j hj; rfl) | ((repeat (first | exact frL (by simp) | exact frO | refine frU ?_ (by simp only [wkey]; omega))); done) | (intro j hj; simp only [upd, wkey, hpL, hOf, List.getElem?_nil]; (repeat rw [if_neg (by omega)]); done) | (intro j hj; simp only [upd, wkey, hpL, hOf, List.getElem?_nil]; (repeat' split) <;> first | (exfalso; omega) | rfl | (apply List.getElem?_eq_none; simp only [List.length_cons, List.length_nil]; omega)))
    iterate 3 ((try (refine drv_sound (n := 12) (rs := _) Try.func8 mo rfl _ _ _ ?_; simp (maxSteps := 10000000) (maxDischargeDepth := 300) only [go_sem, reduceIte, reduceCtorEq, Nat.reduceAdd, Nat.reduceMul, Nat.reduceSub, Nat.reduceEqDiff, Nat.reduceBEq, Nat.reduceLT, Int.reduceToNat, Int.reduceLE, Int.reduceLT, Nat.reduceLeDiff, Pg.cells, Ex.cells, St1.cells, isI, I64, Ex.cellsL_length, Ex.cellsL_get, St1.cellsL_length, St1.cellsL_get, Mm.cells, trD])); (try ((with_reducible refine And.intro ?_ ?_) <;> (repeat' with_reducible apply And.intro) <;> (try first | omega | (simp only [InK]; omega) | (intro k e; cases e; rfl) | (intro hguard; exact ⟨hguard, by simp only [InK]; omega⟩) | kernel_rfl))))
    refine XK.gplain 9 false true (fun _ => hts) ok23 ?_ (by first | (intro j hj; rfl) | ((repeat (first | exact frL (by simp) | exact frO | refine frU ?_ (by simp only [wkey]; omega))); done) | (intro j hj; simp only [upd, wkey, hpL, hOf, List.getElem?_nil]; (repeat rw [if_neg (by omega)]); done) | (intro j hj; simp only [upd, wkey, hpL, hOf, List.getElem?_nil]; (repeat' split) <;> first | (exfalso; omega) | rfl | (apply List.getElem?_eq_none; simp only [List.length_cons, List.length_nil]; omega)))
    iterate 3 ((try (refine drv_sound (n := 12) (rs := _) Try.func8 mo rfl _ _ _ ?_; simp (maxSteps := 10000000) (maxDischargeDepth := 300) only [go_sem, reduceIte, reduceCtorEq, Nat.reduceAdd, Nat.reduceMul, Nat.reduceSub, Nat.reduceEqDiff, Nat.reduceBEq, Nat.reduceLT, Int.reduceToNat, Int.reduceLE, Int.reduceLT, Nat.reduceLeDiff, Pg.cells, Ex.cells, St1.cells, isI, I64, Ex.cellsL_length, Ex.cellsL_get, St1.cellsL_length, St1.cellsL_get, Mm.cells, trD, bne_self_eq_false])); (try ((with_reducible refine And.intro ?_ ?_) <;> (repeat' with_reducible apply And.intro) <;> (try first | omega | (simp only [InK]; omega) | (intro k e; cases e; rfl) | (intro hguard; exact ⟨hguard, by simp only [InK]; omega⟩) | kernel_rfl))))
    refine XK.callG [] hpw ok17 (fun i' x h => by simp at h) (by first | (intro j hj; rfl) | ((repeat (first | exact frL (by simp) | exact frO | refine frU ?_ (by simp only [wkey]; omega))); done) | (intro j hj; simp only [upd, wkey, hpL, hOf, List.getElem?_nil]; (repeat rw [if_neg (by omega)]); done) | (intro j hj; simp only [upd, wkey, hpL, hOf, List.getElem?_nil]; (repeat' split) <;> first | (exfalso; omega) | rfl | (apply List.getElem?_eq_none; simp only [List.length_cons, List.length_nil]; omega))) (fun d h' ⟨_, e⟩ => by subst e; simp) ?_
    rintro _ _ ⟨rfl, rfl⟩ _
    iterate 3 ((try (refine drv_sound (n := 12) (rs := _) Try.func8 mo rfl _ _ _ ?_; simp (maxSteps := 10000000) (maxDischargeDepth := 300) only [go_sem, reduceIte, reduceCtorEq, Nat.reduceAdd, Nat.reduceMul, Nat.reduceSub, Nat.reduceEqDiff, Nat.reduceBEq, Nat.reduceLT, Int.reduceToNat, Int.reduceLE, Int.reduceLT, Nat.reduceLeDiff, Pg.cells, Ex.cells, St1.cells, isI, I64, Ex.cellsL_length, Ex.cellsL_get, St1.cellsL_length, St1.cellsL_get, Mm.cells, boolsD, BC])); (try ((with_reducible refine And.intro ?_ ?_) <;> (repeat' with_reducible apply And.intro) <;> (try first | omega | (simp only [InK]; omega) | (intro k e; cases e; rfl) | (intro hguard; exact ⟨hguard, by simp only [InK]; omega⟩) | kernel_rfl))))
    refine Go.loopQ (fun i : Nat => [(3, .c (.ptr 576 0)), (4, .c (.ptr 640 0)), (5, .c (.ptr 1280 0)), (11, .c (boolsD wv)), (12, .c (boolsD wa)), (13, DI .i64 i)])
      (fun _ => [(576, some (Pg.cells ⟨vs, ar, bd⟩)), (640, some (Mm.cells ⟨va, arr⟩)), (1280, some (Mm.cells ⟨vx, ax⟩))]) 8192 (fun i => i ≤ wv.length) (fun i => wv.length - i) ?_ 0 some [] _ (Nat.zero_le _) ?_
    · intro i hi again
      rcases Nat.lt_or_ge i wv.length with hlt | hge
      · obtain ⟨b, hbx⟩ : ∃ b, wv[i]? = some b := ⟨wv[i], by simp [hlt]⟩
        obtain ⟨u, hu⟩ : ∃ u, va[i]? = some u := ⟨va[i]'(by omega), by simp⟩
        obtain ⟨u2, hu2⟩ : ∃ u, vx[i]? = some u := ⟨vx[i]'(by omega), by simp⟩
        refine drv_sound (n := 12) (rs := _) Try.func8 mo rfl none _ _ ?_
        simp (maxSteps := 10000000) (maxDischargeDepth := 300) only [go_sem, reduceIte, reduceCtorEq, Nat.reduceAdd, Nat.reduceMul, Nat.reduceSub, Nat.reduceEqDiff, Nat.reduceBEq, Nat.reduceLT, Int.reduceToNat, Int.reduceLE, Int.reduceLT, Nat.reduceLeDiff, Pg.cells, Ex.cells, St1.cells, isI, I64, Ex.cellsL_length, Ex.cellsL_get, St1.cellsL_length, St1.cellsL_get, Mm.cells, boolsD, BC, hbx, hu, hu2, hlt]
        cases b with
        | true =>
          iterate 4 ((try (refine drv_sound (n := 12) (rs := _) Try.func8 mo rfl _ _ _ ?_; simp (maxSteps := 10000000) (maxDischargeDepth := 300) only [go_sem, reduceIte, reduceCtorEq, Nat.reduceAdd, Nat.reduceMul, Nat.reduceSub, Nat.reduceEqDiff, Nat.reduceBEq, Nat.reduceLT, Int.reduceToNat, Int.reduceLE, Int.reduceLT, Nat.reduceLeDiff, Pg.cells, Ex.cells, St1.cells, isI, I64, Ex.cellsL_length, Ex.cellsL_get, St1.cellsL_length, St1.cellsL_get, Mm.cells, boolsD, BC, hbx, hu, hu2, hlt])); (try ((with_reducible refine And.intro ?_ ?_) <;> (repeat' with_reducible apply And.intro) <;> (try first | omega | (simp only [InK]; omega) | (intro k e; cases e; rfl) | (intro hguard; exact ⟨hguard, by simp only [InK]; omega⟩) | kernel_rfl))))
          refine again (i + 1) some [] _ hlt (by omega) ?_
          simp (maxSteps := 10000000) (maxDischargeDepth := 300) only [go_sem, reduceIte, reduceCtorEq, Nat.reduceAdd, Nat.reduceMul, Nat.reduceSub, Nat.reduceEqDiff, Nat.reduceBEq, Nat.reduceLT, Int.reduceToNat, Int.reduceLE, Int.reduceLT, Nat.reduceLeDiff, TmOK, DM, DMs, CM, CMs, forall_eq, exists_eq_left, Mq, HpOK, LowOK, Pg.cells, Ex.cells, St1.cells, isI, I64, Ex.cellsL_length, Ex.cellsL_get, St1.cellsL_length, St1.cellsL_get, Mm.cells, boolsD, BC]
          try simp
        | false =>
          have hw3 := w3 i (by omega) (by rw [List.getD_eq_getElem?_getD, hbx]; rfl)
          have huu : u2 = u := by rw [hu, hu2] at hw3; simpa using hw3
          subst huu
          iterate 4 ((try (refine drv_sound (n := 12) (rs := _) Try.func8 mo rfl _ _ _ ?_; simp (maxSteps := 10000000) (maxDischargeDepth := 300) only [go_sem, reduceIte, reduceCtorEq, Nat.reduceAdd, Nat.reduceMul, Nat.reduceSub, Nat.reduceEqDiff, Nat.reduceBEq, Nat.reduceLT, Int.reduceToNat, Int.reduceLE, Int.reduceLT, Nat.reduceLeDiff, Pg.cells, Ex.cells, St1.cells, isI, I64, Ex.cellsL_length, Ex.cellsL_get, St1.cellsL_length, St1.cellsL_get, Mm.cells, boolsD, BC, hbx, hu, hu2, hlt, bne_self_eq_false])); (try ((with_reducible refine And.intro ?_ ?_) <;> (repeat' with_reducible apply And.intro) <;> (try first | omega | (simp only [InK]; omega) | (intro k e; cases e; rfl) | (intro hguard; exact ⟨hguard, by simp only [InK]; omega⟩) | kernel_rfl))))
          refine again (i + 1) some [] _ hlt (by omega) ?_
          simp (maxSteps := 10000000) (maxDischargeDepth := 300) only [go_sem, reduceIte, reduceCtorEq, Nat.reduceAdd, Nat.reduceMul, Nat.reduceSub, Nat.reduceEqDiff, Nat.reduceBEq, Nat.reduceLT, Int.reduceToNat, Int.reduceLE, Int.reduceLT, Nat.reduceLeDiff, TmOK, DM, DMs, CM, CMs, forall_eq, exists_eq_left, Mq, HpOK, LowOK, Pg.cells, Ex.cells, St1.cells, isI, I64, Ex.cellsL_length, Ex.cellsL_get, St1.cellsL_length, St1.cellsL_get, Mm.cells, boolsD, BC]
          try simp
      · have hn : ¬ i < wv.length := by omega
        refine drv_sound (n := 12) (rs := _) Try.func8 mo rfl none _ _ ?_
        simp (maxSteps := 10000000) (maxDischargeDepth := 300) only [go_sem, reduceIte, reduceCtorEq, Nat.reduceAdd, Nat.reduceMul, Nat.reduceSub, Nat.reduceEqDiff, Nat.reduceBEq, Nat.reduceLT, Int.reduceToNat, Int.reduceLE, Int.reduceLT, Nat.reduceLeDiff, Pg.cells, Ex.cells, St1.cells, isI, I64, Ex.cellsL_length, Ex.cellsL_get, St1.cellsL_length, St1.cellsL_get, Mm.cells, boolsD, BC, hn]
        iterate 2 ((try (refine drv_sound (n := 12) (rs := _) Try.func8 mo rfl _ _ _ ?_; simp (maxSteps := 10000000) (maxDischargeDepth := 300) only [go_sem, reduceIte, reduceCtorEq, Nat.reduceAdd, Nat.reduceMul, Nat.reduceSub, Nat.reduceEqDiff, Nat.reduceBEq, Nat.reduceLT, Int.reduceToNat, Int.reduceLE, Int.reduceLT, Nat.reduceLeDiff, Pg.cells, Ex.cells, St1.cells, isI, I64, Ex.cellsL_length, Ex.cellsL_get, St1.cellsL_length, St1.cellsL_get, Mm.cells, boolsD, BC, hn])); (try ((with_reducible refine And.intro ?_ ?_) <;> (repeat' with_reducible apply And.intro) <;> (try first | omega | (simp only [InK]; omega) | (intro k e; cases e; rfl) | (intro hguard; exact ⟨hguard, by simp only [InK]; omega⟩) | kernel_rfl))))
        clear again
        refine Go.loopQ (fun i : Nat => [(3, .c (.ptr 576 0)), (4, .c (.ptr 640 0)), (5, .c (.ptr 1280 0)), (12, .c (boolsD wa)), (14, DI .i64 i)])
          (fun _ => [(576, some (Pg.cells ⟨vs, ar, bd⟩)), (640, some (Mm.cells ⟨va, arr⟩)), (1280, some (Mm.cells ⟨vx, ax⟩))]) 16384 (fun i => i ≤ wa.length) (fun i => wa.length - i) ?_ 0 some [] _ (Nat.zero_le _) ?_
        · clear hi hge hn
          rintro i hi again
          rcases Nat.lt_or_ge i wa.length with hlt | hge
          · obtain ⟨b, hbx⟩ : ∃ b, wa[i]? = some b := ⟨wa[i], by simp [hlt]⟩
            obtain ⟨u, hu⟩ : ∃ u, arr[i]? = some u := ⟨arr[i]'(by omega), by simp⟩
            obtain ⟨u2, hu2⟩ : ∃ u, ax[i]? = some u := ⟨ax[i]'(by omega), by simp⟩
            have hu4 := n5 u2 (List.mem_of_getElem? hu2)
            have hct := ctInts u2 u (by omega)
            refine drv_sound (n := 12) (rs := _) Try.func8 mo rfl none _ _ ?_
            simp (maxSteps := 10000000) (maxDischargeDepth := 300) only [go_sem, reduceIte, reduceCtorEq, Nat.reduceAdd, Nat.reduceMul, Nat.reduceSub, Nat.reduceEqDiff, Nat.reduceBEq, Nat.reduceLT, Int.reduceToNat, Int.reduceLE, Int.reduceLT, Nat.reduceLeDiff, Pg.cells, Ex.cells, St1.cells, isI, I64, Ex.cellsL_length, Ex.cellsL_get, St1.cellsL_length, St1.cellsL_get, Mm.cells, boolsD, BC, hbx, hu, hu2, hlt]
            cases b with
            | true =>
              iterate 4 ((try (refine drv_sound (n := 12) (rs := _) Try.func8 mo rfl _ _ _ ?_; simp (maxSteps := 10000000) (maxDischargeDepth := 300) only [go_sem, reduceIte, reduceCtorEq, Nat.reduceAdd, Nat.reduceMul, Nat.reduceSub, Nat.reduceEqDiff, Nat.reduceBEq, Nat.reduceLT, Int.reduceToNat, Int.reduceLE, Int.reduceLT, Nat.reduceLeDiff, Pg.cells, Ex.cells, St1.cells, isI, I64, Ex.cellsL_length, Ex.cellsL_get, St1.cellsL_length, St1.cellsL_get, Mm.cells, boolsD, BC, hbx, hu, hu2, hlt])); (try ((with_reducible refine And.intro ?_ ?_) <;> (repeat' with_reducible apply And.intro) <;> (try first | omega | (simp only [InK]; omega) | (intro k e; cases e; rfl) | (intro hguard; exact ⟨hguard, by simp only [InK]; omega⟩) | kernel_rfl))))
              refine XK.gskip 5 true (DB true) ?_ (by first | (intro j hj; rfl) | ((repeat (first | exact frL (by simp) | exact frO | refine frU ?_ (by simp only [wkey]; omega))); done) | (intro j hj; simp only [upd, wkey, hpL, hOf, List.getElem?_nil]; (repeat rw [if_neg (by omega)]); done) | (intro j hj; simp only [upd, wkey, hpL, hOf, List.getElem?_nil]; (repeat' split) <;> first | (exfalso; omega) | rfl | (apply List.getElem?_eq_none; simp only [List.length_cons, List.length_nil]; omega))) (fun _ => by kernel_rfl)
              iterate 4 ((try (refine drv_sound (n := 12) (rs := _) Try.func8 mo rfl _ _ _ ?_; simp (maxSteps := 10000000) (maxDischargeDepth := 300) only [go_sem, reduceIte, reduceCtorEq, Nat.reduceAdd, Nat.reduceMul, Nat.reduceSub, Nat.reduceEqDiff, Nat.reduceBEq, Nat.reduceLT, Int.reduceToNat, Int.reduceLE, Int.reduceLT, Nat.reduceLeDiff, Pg.cells, Ex.cells, St1.cells, isI, I64, Ex.cellsL_length, Ex.cellsL_get, St1.cellsL_length, St1.cellsL_get, Mm.cells, boolsD, BC, hbx, hu, hu2, hlt])); (try ((with_reducible refine And.intro ?_ ?_) <;> (repeat' with_reducible apply And.intro) <;> (try first | omega | (simp only [InK]; omega) | (intro k e; cases e; rfl) | (intro hguard; exact ⟨hguard, by simp only [InK]; omega⟩) | kernel_rfl))))
              refine again (i + 1) some [] _ hlt (by omega) ?_
              simp (maxSteps := 10000000) (maxDischargeDepth := 300) only [go_sem, reduceIte, reduceCtorEq, Nat.reduceAdd, Nat.reduceMul, Nat.reduceSub, Nat.reduceEqDiff, Nat.reduceBEq, Nat.reduceLT, Int.reduceToNat, Int.reduceLE, Int.reduceLT, Nat.reduceLeDiff, TmOK, DM, DMs, CM, CMs, forall_eq, exists_eq_left, Mq, HpOK, LowOK, Pg.cells, Ex.cells, St1.cells, isI, I64, Ex.cellsL_length, Ex.cellsL_get, St1.cellsL_length, St1.cellsL_get, Mm.cells, boolsD, BC]
              try simp
            | false =>
              have hw4 := w4 i (by omega) (by rw [List.getD_eq_getElem?_getD, hbx]; rfl)
              have huu : u2 = u := by rw [hu, hu2] at hw4; simpa using hw4
              subst huu
              simp only [decide_true] at hct
              iterate 4 ((try (refine drv_sound (n := 12) (rs := _) Try.func8 mo rfl _ _ _ ?_; simp (maxSteps := 10000000) (maxDischargeDepth := 300) only [go_sem, reduceIte, reduceCtorEq, Nat.reduceAdd, Nat.reduceMul, Nat.reduceSub, Nat.reduceEqDiff, Nat.reduceBEq, Nat.reduceLT, Int.reduceToNat, Int.reduceLE, Int.reduceLT, Nat.reduceLeDiff, Pg.cells, Ex.cells, St1.cells, isI, I64, Ex.cellsL_length, Ex.cellsL_get, St1.cellsL_length, St1.cellsL_get, Mm.cells, boolsD, BC, hbx, hu, hu2, hlt, bne_self_eq_false])); (try ((with_reducible refine And.intro ?_ ?_) <;> (repeat' with_reducible apply And.intro) <;> (try first | omega | (simp only [InK]; omega) | (intro k e; cases e; rfl) | (intro hguard; exact ⟨hguard, by simp only [InK]; omega⟩) | kernel_rfl))))
              refine XK.gplain 5 true true (fun _ => hct) ok27 ?_ (by first | (intro j hj; rfl) | ((repeat (first | exact frL (by simp) | exact frO | refine frU ?_ (by simp only [wkey]; omega))); done) | (intro j hj; simp only [upd, wkey, hpL, hOf, List.getElem?_nil]; (repeat rw [if_neg (by omega)]); done) | (intro j hj; simp only [upd, wkey, hpL, hOf, List.getElem?_nil]; (repeat' split) <;> first | (exfalso; omega) | rfl | (apply List.getElem?_eq_none; simp only [List.length_cons, List.length_nil]; omega))) (fun _ => by kernel_rfl)
              iterate 4 ((try (refine drv_sound (n := 12) (rs := _) Try.func8 mo rfl _ _ _ ?_; simp (maxSteps := 10000000) (maxDischargeDepth := 300) only [go_sem, reduceIte, reduceCtorEq, Nat.reduceAdd, Nat.reduceMul, Nat.reduceSub, Nat.reduceEqDiff, Nat.reduceBEq, Nat.reduceLT, Int.reduceToNat, Int.reduceLE, Int.reduceLT, Nat.reduceLeDiff, Pg.cells, Ex.cells, St1.cells, isI, I64, Ex.cellsL_length, Ex.cellsL_get, St1.cellsL_length, St1.cellsL_get, Mm.cells, boolsD, BC, hbx, hu, hu2, hlt, bne_self_eq_false])); (try ((with_reducible refine And.intro ?_ ?_) <;> (repeat' with_reducible apply And.intro) <;> (try first | omega | (simp only [InK]; omega) | (intro k e; cases e; rfl) | (intro hguard; exact ⟨hguard, by simp only [InK]; omega⟩) | kernel_rfl))))
              refine again (i + 1) some [] _ hlt (by omega) ?_
              simp (maxSteps := 10000000) (maxDischargeDepth := 300) only [go_sem, reduceIte, reduceCtorEq, Nat.reduceAdd, Nat.reduceMul, Nat.reduceSub, Nat.reduceEqDiff, Nat.reduceBEq, Nat.reduceLT, Int.reduceToNat, Int.reduceLE, Int.reduceLT, Nat.reduceLeDiff, TmOK, DM, DMs, CM, CMs, forall_eq, exists_eq_left, Mq, HpOK, LowOK, Pg.cells, Ex.cells, St1.cells, isI, I64, Ex.cellsL_length, Ex.cellsL_get, St1.cellsL_length, St1.cellsL_get, Mm.cells, boolsD, BC]
              try simp
          · have hn : ¬ i < wa.length := by omega
            refine drv_sound (n := 12) (rs := _) Try.func8 mo rfl none _ _ ?_
            simp (maxSteps := 10000000) (maxDischargeDepth := 300) only [go_sem, reduceIte, reduceCtorEq, Nat.reduceAdd, Nat.reduceMul, Nat.reduceSub, Nat.reduceEqDiff, Nat.reduceBEq, Nat.reduceLT, Int.reduceToNat, Int.reduceLE, Int.reduceLT, Nat.reduceLeDiff, Pg.cells, Ex.cells, St1.cells, isI, I64, Ex.cellsL_length, Ex.cellsL_get, St1.cellsL_length, St1.cellsL_get, Mm.cells, boolsD, BC, hn]
            iterate 2 ((try (refine drv_sound (n := 12) (rs := _) Try.func8 mo rfl _ _ _ ?_; simp (maxSteps := 10000000) (maxDischargeDepth := 300) only [go_sem, reduceIte, reduceCtorEq, Nat.reduceAdd, Nat.reduceMul, Nat.reduceSub, Nat.reduceEqDiff, Nat.reduceBEq, Nat.reduceLT, Int.reduceToNat, Int.reduceLE, Int.reduceLT, Nat.reduceLeDiff, Pg.cells, Ex.cells, St1.cells, isI, I64, Ex.cellsL_length, Ex.cellsL_get, St1.cellsL_length, St1.cellsL_get, Mm.cells, boolsD, BC, hn])); (try ((with_reducible refine And.intro ?_ ?_) <;> (repeat' with_reducible apply And.intro) <;> (try first | omega | (simp only [InK]; omega) | (intro k e; cases e; rfl) | (intro hguard; exact ⟨hguard, by simp only [InK]; omega⟩) | kernel_rfl))))
            refine XK.plain hmv ok31 ?_ (by first | (intro j hj; rfl) | ((repeat (first | exact frL (by simp) | exact frO | refine frU ?_ (by simp only [wkey]; omega))); done) | (intro j hj; simp only [upd, wkey, hpL, hOf, List.getElem?_nil]; (repeat rw [if_neg (by omega)]); done) | (intro j hj; simp only [upd, wkey, hpL, hOf, List.getElem?_nil]; (repeat' split) <;> first | (exfalso; omega) | rfl | (apply List.getElem?_eq_none; simp only [List.length_cons, List.length_nil]; omega)))
            iterate 2 ((try (refine drv_sound (n := 12) (rs := _) Try.func8 mo rfl _ _ _ ?_; simp (maxSteps := 10000000) (maxDischargeDepth := 300) only [go_sem, reduceIte, reduceCtorEq, Nat.reduceAdd, Nat.reduceMul, Nat.reduceSub, Nat.reduceEqDiff, Nat.reduceBEq, Nat.reduceLT, Int.reduceToNat, Int.reduceLE, Int.reduceLT, Nat.reduceLeDiff, Pg.cells, Ex.cells, St1.cells, isI, I64, Ex.cellsL_length, Ex.cellsL_get, St1.cellsL_length, St1.cellsL_get, Mm.cells, boolsD, BC, hn])); (try ((with_reducible refine And.intro ?_ ?_) <;> (repeat' with_reducible apply And.intro) <;> (try first | omega | (simp only [InK]; omega) | (intro k e; cases e; rfl) | (intro hguard; exact ⟨hguard, by simp only [InK]; omega⟩) | kernel_rfl))))
            exact ret _
        · simp (maxSteps := 10000000) (maxDischargeDepth := 300) only [go_sem, reduceIte, reduceCtorEq, Nat.reduceAdd, Nat.reduceMul, Nat.reduceSub, Nat.reduceEqDiff, Nat.reduceBEq, Nat.reduceLT, Int.reduceToNat, Int.reduceLE, Int.reduceLT, Nat.reduceLeDiff, TmOK, DM, DMs, CM, CMs, forall_eq, exists_eq_left, Mq, HpOK, LowOK, Pg.cells, Ex.cells, St1.cells, isI, I64, Ex.cellsL_length, Ex.cellsL_get, St1.cellsL_length, St1.cellsL_get, Mm.cells, boolsD, BC]
          try simp
    · simp (maxSteps := 10000000) (maxDischargeDepth := 300) only [go_sem, reduceIte, reduceCtorEq, Nat.reduceAdd, Nat.reduceMul, Nat.reduceSub, Nat.reduceEqDiff, Nat.reduceBEq, Nat.reduceLT, Int.reduceToNat, Int.reduceLE, Int.reduceLT, Nat.reduceLeDiff, TmOK, DM, DMs, CM, CMs, forall_eq, exists_eq_left, Mq, HpOK, LowOK, Pg.cells, Ex.cells, St1.cells, isI, I64, Ex.cellsL_length, Ex.cellsL_get, St1.cellsL_length, St1.cellsL_get, Mm.cells, boolsD, BC]
      try simp
end Go.Proofs.Ytclgjiffpijgmaa.CtD
