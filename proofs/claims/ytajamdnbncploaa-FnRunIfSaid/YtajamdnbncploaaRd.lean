/- Contracts of functions of the program, one behind the other, as plain data: what each call returns and which blocks it leaves. -/
import Derived.Test.YtajamdnbncploaaFacts
import Derived.Test.YtajamdnbncploaaCtD
import Derived.Test.YtajamdnbncploaaVa
import Derived.Test.YtajamdnbncploaaVb
import Derived.Test.YtajamdnbncploaaVc
import Derived.Test.YtajamdnbncploaaRa
import Derived.Test.YtajamdnbncploaaRb
import Derived.Test.YtajamdnbncploaaRc
set_option linter.unusedVariables false
set_option linter.unusedSimpArgs false
namespace Go.Proofs.Ytajamdnbncploaa.CtR
open Go Go.CT CtF

/-! Evaluation in the program itself over a memory that nobody writes. -/
def arrD (m : Mm) : C := .isl 1 (m.arrays.map fun a => [isI a])
def stJ (m : Mm) (tr : List Ev) : List (Option (List C)) := [some [isI m.vals, arrD m, .msl 1 2 0 tr.length], some (trC tr)]
def stJ' (m : Mm) (tr : List Ev) : List (Option (List C)) := [some [isI m.vals, arrD m, .msl 2 2 0 tr.length], none, some (trC tr)]
theorem RetOb.stJ {R : D → List (Option (List C)) → Prop} {m : Mm} {tr : List Ev} {d : D} {hp : Hp} (kt n : Nat) (cs : List C) (hR : R d (stJ' m tr)) (hd : kD d) (e0 : hp 0 = some (some [isI m.vals, arrD m, .msl kt 2 0 n]))
    (ek : hp kt = some (some cs)) (hk : kt = 1 ∨ 2 ≤ kt) (hcs : cs = trC tr) (hn : n = tr.length) : RetOb 2 R d hp := by
  subst hcs hn
  refine RetOb.ofQ (fun j => if j = 2 then some kt else some j) [] d (CtR.stJ' m tr) ⟨DM.kD hd, ?_⟩ hR (by simp [CtR.stJ'])
  simp [CtR.stJ', enumL, hOf, CM, CMs, HpOK, LowOK, upd, CMs_tr, e0, ek, isI, arrD]
  omega
theorem hhp2' {hp : Hp} {r : Nat → Nat} {k0 k1 : Nat} {h0 h1 : Option (List C)} (e0 : hp k0 = some (h0.map (renCs r))) (e1 : hp k1 = some (h1.map (renCs r))) : ∀ i' x, [h0, h1][i']? = some x → hp ([k0, k1].getD i' 0) = some (x.map (renCs r)) := by
  intro i' x hx
  match i', hx with
  | 0, hx => simp only [List.getElem?_cons_zero, Option.some.injEq] at hx; subst hx; exact e0
  | 1, hx => simp only [List.getElem?_cons_succ, List.getElem?_cons_zero, Option.some.injEq] at hx; subst hx; exact e1
  | i' + 2, hx => simp at hx

set_option maxHeartbeats 1000000 in
set_option maxRecDepth 10000 in
theorem eventJ (m : Mm) (k0 v0 : Int) (tr : List Ev) (htr : tr.length + 1 ≤ 1073741824) :
    DC Try.prog 38 [.c (.ptr 0 0), DI .i64 k0, DI .i64 v0] (stJ m tr) (fun d h => d = .tup [] ∧ h = stJ' m (tr ++ [⟨k0, v0⟩])) := by
  have hmx := mx_eq
  have hl := trC_len tr
  unfold stJ
  refine dc_of_go Try.func38 rfl (by simp) ?_
  refine drv_sound (n := 100) (rs := _) Try.func38 mo rfl none _ _ ?_
  simp (maxSteps := 10000000) (maxDischargeDepth := 300) only [go_sem, reduceIte, reduceCtorEq, Nat.reduceAdd, Nat.reduceMul, Nat.reduceSub, Nat.reduceEqDiff, Nat.reduceBEq, Nat.reduceLT, Int.reduceToNat, Int.reduceLE, Int.reduceLT, Nat.reduceLeDiff, isI, I64]
  (repeat' with_reducible apply And.intro) <;> (try first | omega | (simp only [InK]; omega) | (intro k e; cases e; rfl) | (intro hguard; exact ⟨hguard, by simp only [InK]; omega⟩) | kernel_rfl)
  refine RetOb.ofQ (fun j => if j = 2 then some 578 else some j) [] (.tup []) (stJ' m (tr ++ [⟨k0, v0⟩])) ?_ ⟨rfl, rfl⟩ (by simp [stJ'])
  simp [stJ', enumL, hOf, DM, DMs, CM, CMs, HpOK, LowOK, upd, CMs_tr, hpL, trC_snoc, isI, arrD]
  exact CMs.kf (kf_app (trC_kf _) (by simp [kf]))

set_option maxHeartbeats 16000000 in
set_option maxRecDepth 10000 in
theorem evalJ (p : Pg) (m : Mm) (hm : MemFits p m) : ∀ (d : Nat) (e : Ex) (tr : List Ev), shape p d e = true → tr.length + cnt d e ≤ 1073741824 → DC Try.prog 33 [.c (.ptr 0 0), .agg e.cells] (stJ m tr)
    (fun r h => r = DI .i64 (evalE m d e).1 ∧ h = stJ' m (tr ++ (evalE m d e).2)) := by
  have hmx := mx_eq
  intro d
  induction d using Nat.strongRecOn with
  | _ d ih =>
    intro e tr hsh htr
    obtain ⟨k, v, ks⟩ := e
    obtain ⟨d', rfl⟩ : ∃ d', d = d' + 1 := by
      cases d with
      | zero => simp [shape] at hsh
      | succ d' => exact ⟨d', rfl⟩
    obtain ⟨h1, h2, h3⟩ := shape_succ hsh
    obtain ⟨hl3, hla, hv0, hv1⟩ := fits_len h1
    generalize hR : (fun (r : D) (h : List (Option (List C))) => r = DI .i64 (evalE m (d' + 1) (.mk k v ks)).1 ∧ h = stJ' m (tr ++ (evalE m (d' + 1) (.mk k v ks)).2)) = R
    have ret : ∀ (x : Int) (kt n : Nat) (cs : List C) (tr' : List Ev) (hp : Hp), x = (evalE m (d' + 1) (.mk k v ks)).1 → tr' = tr ++ (evalE m (d' + 1) (.mk k v ks)).2 → hp 0 = some (some [isI m.vals, arrD m, .msl kt 2 0 n]) → hp kt = some (some cs) → (kt = 1 ∨ 2 ≤ kt) → cs = trC tr' → n = tr'.length → RetOb 2 R (DI .i64 x) hp := by
      rintro x kt n cs tr' hp rfl rfl e0 ek hk hcs hn
      subst hR
      exact RetOb.stJ kt n cs ⟨rfl, rfl⟩ rfl e0 ek hk hcs hn
    unfold stJ
    refine dc_of_go Try.func33 rfl (by simp) ?_
    refine drv_sound (n := 14) (rs := _) Try.func33 mo rfl none _ _ ?_
    simp (maxSteps := 10000000) (maxDischargeDepth := 300) only [go_sem, reduceIte, reduceCtorEq, Nat.reduceAdd, Nat.reduceMul, Nat.reduceSub, Nat.reduceEqDiff, Nat.reduceBEq, Nat.reduceLT, Int.reduceToNat, Int.reduceLE, Int.reduceLT, Nat.reduceLeDiff, Pg.cells, Ex.cells, St1.cells, isI, I64, Ex.cellsL_length, Ex.cellsL_get, St1.cellsL_length, St1.cellsL_get]
    refine drv_sound (n := 100) (rs := _) Try.func33 mo rfl _ _ _ ?_
    simp (maxSteps := 10000000) (maxDischargeDepth := 300) only [go_sem, reduceIte, reduceCtorEq, Nat.reduceAdd, Nat.reduceMul, Nat.reduceSub, Nat.reduceEqDiff, Nat.reduceBEq, Nat.reduceLT, Int.reduceToNat, Int.reduceLE, Int.reduceLT, Nat.reduceLeDiff, Pg.cells, Ex.cells, St1.cells, isI, I64, Ex.cellsL_length, Ex.cellsL_get, St1.cellsL_length, St1.cellsL_get]
    refine Go.loopQ (fun i : Nat => [(0, .c (.ptr 0 0)), (3, .c (.ptr 2 0)), (5, .c (.msl 21 1 0 i)), (9, .c (.isl 3 (Ex.cellsL ks))), (10, DI .i64 ks.length), (11, DI .i64 i)])
      (fun i => [(0, some [isI m.vals, arrD m, .msl 20 2 0 (tr ++ evs m d' (ks.take i)).length]), (1, none), (2, some (Ex.cells (.mk k v ks))), (20, some (trC (tr ++ evs m d' (ks.take i)))), (21, some ((vas m d' (ks.take i)).map I64))])
      4096 (fun i => i ≤ ks.length) (fun i => ks.length - i) ?_ 0 (fun j => if j = 20 then some 1 else if j = 21 then none else some j) [] _ (Nat.zero_le _) ?_
    · intro i hi again
      refine drv_sound (n := 100) (rs := _) Try.func33 mo rfl none _ _ ?_
      rcases Nat.lt_or_ge i ks.length with hlt | hge
      · obtain ⟨⟨k', v', ks'⟩, hx⟩ : ∃ x, ks[i]? = some x := ⟨ks[i], by simp [hlt]⟩
        simp (maxSteps := 10000000) (maxDischargeDepth := 300) only [go_sem, reduceIte, reduceCtorEq, Nat.reduceAdd, Nat.reduceMul, Nat.reduceSub, Nat.reduceEqDiff, Nat.reduceBEq, Nat.reduceLT, Int.reduceToNat, Int.reduceLE, Int.reduceLT, Nat.reduceLeDiff, hx, hlt, Pg.cells, Ex.cells, St1.cells, isI, I64, Ex.cellsL_length, Ex.cellsL_get, St1.cellsL_length, St1.cellsL_get, arrD]
        (repeat' with_reducible apply And.intro) <;> (try first | omega | (simp only [InK]; omega) | (intro k e; cases e; rfl) | (intro hguard; exact ⟨hguard, by simp only [InK]; omega⟩) | kernel_rfl)
        have hmem := List.mem_of_getElem? hx
        have hsk := h2 _ hmem
        have hcnt : (tr ++ evs m d' (ks.take i)).length + cnt d' (.mk k' v' ks') ≤ 1073741824 := by
          have g1 := evs_len_le (m := m) (fun e he => evalE_len d' e he) (ks.take i) (fun x hx => h2 x (List.mem_of_mem_take hx))
          have g2 := tsum_succ (cnt d') ks i _ hx
          have g3 := tsum_le (cnt d') ks (i + 1)
          unfold tsum at g2 g3
          simp only [cnt] at htr
          rw [List.length_append]
          omega
        refine XK.callG [0, 20] (ih d' (by omega) (.mk k' v' ks') (tr ++ evs m d' (ks.take i)) hsk hcnt) ok33 (hhp2' (by simp [hOf, upd, renCs, renC, rk0, isI, arrD]) (by simp [hOf, upd, renCs_tr])) (by first | (intro j hj; rfl) | ((repeat (first | exact frL (by simp) | exact frO | refine frU ?_ (by simp only [wkey]; omega))); done) | (intro j hj; simp only [upd, wkey, hpL, hOf, List.getElem?_nil]; (repeat rw [if_neg (by omega)]); done) | (intro j hj; simp only [upd, wkey, hpL, hOf, List.getElem?_nil]; (repeat' split) <;> first | (exfalso; omega) | rfl | (apply List.getElem?_eq_none; simp only [List.length_cons, List.length_nil]; omega))) (fun d h' ⟨_, e⟩ => by subst e; simp [stJ, stJ']) ?_
        rintro _ _ ⟨rfl, rfl⟩ _
        unfold stJ'
        refine drv_sound (n := 100) (rs := _) Try.func33 mo rfl (some _) _ _ ?_
        simp (maxSteps := 10000000) (maxDischargeDepth := 300) only [go_sem, reduceIte, reduceCtorEq, Nat.reduceAdd, Nat.reduceMul, Nat.reduceSub, Nat.reduceEqDiff, Nat.reduceBEq, Nat.reduceLT, Int.reduceToNat, Int.reduceLE, Int.reduceLT, Nat.reduceLeDiff, hx, hlt, Pg.cells, Ex.cells, St1.cells, isI, I64, Ex.cellsL_length, Ex.cellsL_get, St1.cellsL_length, St1.cellsL_get, renCs_tr, arrD]
        have hva := vas_succ m d' ks i _ hx
        have hev := evs_succ m d' ks i _ hx
        have hvl : (vas m d' (ks.take i)).length = i := by rw [vas_len, List.length_take]; omega
        (repeat' with_reducible apply And.intro) <;> (try first | omega | (simp only [InK]; omega) | (intro k e; cases e; rfl) | (intro hguard; exact ⟨hguard, by simp only [InK]; omega⟩) | kernel_rfl)
        refine again (i + 1) (fun j => if j = 20 then some 4608 else if j = 21 then some 4736 else some j) [] _ hlt (by omega) ?_
        simp (maxSteps := 10000000) (maxDischargeDepth := 300) only [go_sem, reduceIte, reduceCtorEq, Nat.reduceAdd, Nat.reduceMul, Nat.reduceSub, Nat.reduceEqDiff, Nat.reduceBEq, Nat.reduceLT, Int.reduceToNat, Int.reduceLE, Int.reduceLT, Nat.reduceLeDiff, TmOK, DM, DMs, CM, CMs, forall_eq, exists_eq_left, Mq, HpOK, LowOK, Pg.cells, Ex.cells, St1.cells, isI, I64, Ex.cellsL_length, Ex.cellsL_get, St1.cellsL_length, St1.cellsL_get, CMs_tr, hva, hev, arrD]
        simp [CMs_tr, trC_app]
        exact ⟨CMs.kf (kf_app (trC_kf _) (kf_app (trC_kf _) (trC_kf _))), CMs.kf (kf_app (kf_I _) (kf_I [_]))⟩
      · have hn : ¬ i < ks.length := by omega
        obtain rfl : i = ks.length := by omega
        have hr0 := vas_range hm h2 0
        have hr1 := vas_range hm h2 1
        have hvx0 := vas_get m d' ks 0
        have hvx1 := vas_get m d' ks 1
        have hvx2 := vas_get m d' ks 2
        have hlen := evs_len_le (m := m) (fun e he => evalE_len d' e he) ks h2
        have hll : (tr ++ evs m d' ks).length = tr.length + (evs m d' ks).length := List.length_append
        have htr2 := htr
        simp only [cnt] at htr2
        by_cases hk1 : k = 1
        · subst hk1
          have hks : ks = [] := by simpa [arity] using hla
          subst hks
          simp (maxSteps := 10000000) (maxDischargeDepth := 300) only [go_sem, reduceIte, reduceCtorEq, Nat.reduceAdd, Nat.reduceMul, Nat.reduceSub, Nat.reduceEqDiff, Nat.reduceBEq, Nat.reduceLT, Int.reduceToNat, Int.reduceLE, Int.reduceLT, Nat.reduceLeDiff, hn, Pg.cells, Ex.cells, St1.cells, isI, I64, Ex.cellsL_length, Ex.cellsL_get, St1.cellsL_length, St1.cellsL_get, arrD, List.take_length, Int.reduceEq, Int.reduceBEq, List.length_nil, Ex.cellsL]
          exact ret _ _ _ _ (tr ++ evs m d' []) _ (by simp [evalE]) (by simp [evalE, evs]) rfl rfl (by omega) rfl rfl
        by_cases hk2 : k = 2
        · subst hk2
          have hks : ks = [] := by simpa [arity] using hla
          subst hks
          have hx := (nth_mem (l := m.vals) hv0 (by rw [hm.nv]; exact hv1)).1
          have hvl : v < m.vals.length := by rw [hm.nv]; exact hv1
          simp (maxSteps := 10000000) (maxDischargeDepth := 300) only [go_sem, reduceIte, reduceCtorEq, Nat.reduceAdd, Nat.reduceMul, Nat.reduceSub, Nat.reduceEqDiff, Nat.reduceBEq, Nat.reduceLT, Int.reduceToNat, Int.reduceLE, Int.reduceLT, Nat.reduceLeDiff, hn, Pg.cells, Ex.cells, St1.cells, isI, I64, Ex.cellsL_length, Ex.cellsL_get, St1.cellsL_length, St1.cellsL_get, arrD, List.take_length, Int.reduceEq, Int.reduceBEq, List.length_nil, Ex.cellsL, hx]
          (repeat' with_reducible apply And.intro) <;> (try first | omega | (simp only [InK]; omega) | (intro k e; cases e; rfl) | (intro hguard; exact ⟨hguard, by simp only [InK]; omega⟩) | kernel_rfl)
          exact ret _ _ _ _ (tr ++ evs m d' []) _ (by simp [evalE]) (by simp [evalE, evs]) rfl rfl (by omega) rfl rfl
        by_cases hk3 : k = 3
        · subst hk3
          have hl1 : ks.length = 1 := by simp [arity] at hla; omega
          have hvx0 := hvx0 (by omega)
          simp only [limit] at hv1
          have hna := hm.na
          have hvl : v < m.arrays.length := by simp at hv1; omega
          have ha := arrAt_mem (m := m) hv0 hvl
          have ha4 := hm.arr _ ha.2
          have hx1 := Int.emod_nonneg ((vas m d' ks).getD 0 0) (show (4 : Int) ≠ 0 by decide)
          have hx2 := Int.emod_lt_of_pos ((vas m d' ks).getD 0 0) (show (0 : Int) < 4 by decide)
          have hb := (nth_mem (l := arrAt m v) hx1 (by rw [ha4.1]; exact hx2)).1
          have hh := ha.1
          have hna2 := hm.na2
          have hvu : v * 4 + (vas m d' ks).getD 0 0 % 4 ≤ 8 := by have := hm.na2; omega
          have hev : (evalE m (d' + 1) (.mk 3 v ks)) = (nth (arrAt m v) ((vas m d' ks).getD 0 0 % 4), evs m d' ks ++ [⟨2, v * 4 + (vas m d' ks).getD 0 0 % 4⟩]) := rfl
          simp (maxSteps := 10000000) (maxDischargeDepth := 300) only [go_sem, reduceIte, reduceCtorEq, Nat.reduceAdd, Nat.reduceMul, Nat.reduceSub, Nat.reduceEqDiff, Nat.reduceBEq, Nat.reduceLT, Int.reduceToNat, Int.reduceLE, Int.reduceLT, Nat.reduceLeDiff, hn, Pg.cells, Ex.cells, St1.cells, isI, I64, Ex.cellsL_length, Ex.cellsL_get, St1.cellsL_length, St1.cellsL_get, arrD, List.take_length, Int.reduceEq, Int.reduceBEq, hvx0, hh, hb, arrD]
          (repeat' with_reducible apply And.intro) <;> (try first | omega | (simp only [InK]; omega) | (intro k e; cases e; rfl) | (intro hguard; exact ⟨hguard, by simp only [InK]; omega⟩) | kernel_rfl)
          refine XK.plain (address v ((vas m d' ks).getD 0 0) (by omega) hr0) ok39 ?_ (by first | (intro j hj; rfl) | ((repeat (first | exact frL (by simp) | exact frO | refine frU ?_ (by simp only [wkey]; omega))); done) | (intro j hj; simp only [upd, wkey, hpL, hOf, List.getElem?_nil]; (repeat rw [if_neg (by omega)]); done) | (intro j hj; simp only [upd, wkey, hpL, hOf, List.getElem?_nil]; (repeat' split) <;> first | (exfalso; omega) | rfl | (apply List.getElem?_eq_none; simp only [List.length_cons, List.length_nil]; omega))) (fun _ => by kernel_rfl) (hm := by simp only [wkey]; decide)
          refine drv_sound (n := 100) (rs := _) Try.func33 mo rfl (some _) _ _ ?_
          simp (maxSteps := 10000000) (maxDischargeDepth := 300) only [go_sem, reduceIte, reduceCtorEq, Nat.reduceAdd, Nat.reduceMul, Nat.reduceSub, Nat.reduceEqDiff, Nat.reduceBEq, Nat.reduceLT, Int.reduceToNat, Int.reduceLE, Int.reduceLT, Nat.reduceLeDiff, Pg.cells, Ex.cells, St1.cells, isI, I64, Ex.cellsL_length, Ex.cellsL_get, St1.cellsL_length, St1.cellsL_get, hvx0, hh, hb, arrD]
          (repeat' with_reducible apply And.intro) <;> (try first | omega | (simp only [InK]; omega) | (intro k e; cases e; rfl) | (intro hguard; exact ⟨hguard, by simp only [InK]; omega⟩) | kernel_rfl)
          refine XK.callG [0, 20] (eventJ m 2 (v * 4 + (vas m d' ks).getD 0 0 % 4) (tr ++ evs m d' ks) (by omega)) ok38 (hhp2' (by simp [hOf, upd, renCs, renC, rk0, isI, arrD]) (by simp [hOf, upd, renCs_tr])) (by first | (intro j hj; rfl) | ((repeat (first | exact frL (by simp) | exact frO | refine frU ?_ (by simp only [wkey]; omega))); done) | (intro j hj; simp only [upd, wkey, hpL, hOf, List.getElem?_nil]; (repeat rw [if_neg (by omega)]); done) | (intro j hj; simp only [upd, wkey, hpL, hOf, List.getElem?_nil]; (repeat' split) <;> first | (exfalso; omega) | rfl | (apply List.getElem?_eq_none; simp only [List.length_cons, List.length_nil]; omega))) (fun d h' ⟨_, e⟩ => by subst e; simp [stJ, stJ']) ?_ (fun _ => ⟨by kernel_rfl, _, _, ⟨rfl, rfl⟩, by simp [stJ, stJ']⟩)
          rintro _ _ ⟨rfl, rfl⟩ _
          unfold stJ'
          refine drv_sound (n := 100) (rs := _) Try.func33 mo rfl (some _) _ _ ?_
          simp (maxSteps := 10000000) (maxDischargeDepth := 300) only [go_sem, reduceIte, reduceCtorEq, Nat.reduceAdd, Nat.reduceMul, Nat.reduceSub, Nat.reduceEqDiff, Nat.reduceBEq, Nat.reduceLT, Int.reduceToNat, Int.reduceLE, Int.reduceLT, Nat.reduceLeDiff, Pg.cells, Ex.cells, St1.cells, isI, I64, Ex.cellsL_length, Ex.cellsL_get, St1.cellsL_length, St1.cellsL_get, hvx0, hh, hb, renCs_tr, arrD]
          (repeat' with_reducible apply And.intro) <;> (try first | omega | (simp only [InK]; omega) | (intro k e; cases e; rfl) | (intro hguard; exact ⟨hguard, by simp only [InK]; omega⟩) | kernel_rfl)
          refine ret _ _ _ _ (tr ++ evs m d' ks ++ [⟨2, v * 4 + (vas m d' ks).getD 0 0 % 4⟩]) _ (by rw [hev]) (by rw [hev, List.append_assoc]) rfl rfl (by omega) rfl rfl
        have e1 : (k == 1) = false := by simp [hk1]
        have e2 : (k == 2) = false := by simp [hk2]
        have e3 : (k == 3) = false := by simp [hk3]
        by_cases hk11 : k = 11
        · subst hk11
          have hl1 : ks.length = 3 := by simp [arity] at hla; omega
          have hvx0 := hvx0 (by omega)
          have hvx1 := hvx1 (by omega)
          have hvx2 := hvx2 (by omega)
          have hev : (evalE m (d' + 1) (.mk 11 v ks)) = (if (vas m d' ks).getD 0 0 ≠ 0 then (vas m d' ks).getD 1 0 else (vas m d' ks).getD 2 0, evs m d' ks) := rfl
          simp (maxSteps := 10000000) (maxDischargeDepth := 300) only [go_sem, reduceIte, reduceCtorEq, Nat.reduceAdd, Nat.reduceMul, Nat.reduceSub, Nat.reduceEqDiff, Nat.reduceBEq, Nat.reduceLT, Int.reduceToNat, Int.reduceLE, Int.reduceLT, Nat.reduceLeDiff, hn, Pg.cells, Ex.cells, St1.cells, isI, I64, Ex.cellsL_length, Ex.cellsL_get, St1.cellsL_length, St1.cellsL_get, arrD, List.take_length, Int.reduceEq, Int.reduceBEq, hvx0, hvx1, hvx2]
          refine ⟨by omega, fun h0 => ⟨by omega, ret _ _ _ _ (tr ++ evs m d' ks) _ (by rw [hev]; exact (if_pos h0).symm) (by rw [hev]) rfl rfl (by omega) rfl rfl⟩, fun h0 => ⟨by omega, ret _ _ _ _ (tr ++ evs m d' ks) _ (by rw [hev]; exact (if_neg fun h => h h0).symm) (by rw [hev]) rfl rfl (by omega) rfl rfl⟩⟩
        · have e11 : (k == 11) = false := by simp [hk11]
          have hl1 : ks.length = 2 := by
            unfold arity at hla
            repeat' split at hla
            all_goals omega
          have hvx0 := hvx0 (by omega)
          have hvx1 := hvx1 (by omega)
          have hev : (evalE m (d' + 1) (.mk k v ks)) = (bin k ((vas m d' ks).getD 0 0) ((vas m d' ks).getD 1 0), evs m d' ks) := by
            simp only [evalE, if_neg hk1, if_neg hk2, if_neg hk3, if_neg hk11]; rfl
          simp (maxSteps := 10000000) (maxDischargeDepth := 300) only [go_sem, reduceIte, reduceCtorEq, Nat.reduceAdd, Nat.reduceMul, Nat.reduceSub, Nat.reduceEqDiff, Nat.reduceBEq, Nat.reduceLT, Int.reduceToNat, Int.reduceLE, Int.reduceLT, Nat.reduceLeDiff, hn, Pg.cells, Ex.cells, St1.cells, isI, I64, Ex.cellsL_length, Ex.cellsL_get, St1.cellsL_length, St1.cellsL_get, arrD, List.take_length, hk1, hk2, hk3, hk11, e1, e2, e3, e11, hvx0, hvx1]
          (repeat' with_reducible apply And.intro) <;> (try first | omega | (simp only [InK]; omega) | (intro k e; cases e; rfl) | (intro hguard; exact ⟨hguard, by simp only [InK]; omega⟩) | kernel_rfl)
          refine XK.plain (operate k _ _ hr0 hr1) ok54 ?_ (by first | (intro j hj; rfl) | ((repeat (first | exact frL (by simp) | exact frO | refine frU ?_ (by simp only [wkey]; omega))); done) | (intro j hj; simp only [upd, wkey, hpL, hOf, List.getElem?_nil]; (repeat rw [if_neg (by omega)]); done) | (intro j hj; simp only [upd, wkey, hpL, hOf, List.getElem?_nil]; (repeat' split) <;> first | (exfalso; omega) | rfl | (apply List.getElem?_eq_none; simp only [List.length_cons, List.length_nil]; omega))) (fun _ => by kernel_rfl) (hm := by simp only [wkey]; decide)
          refine drv_sound (n := 100) (rs := _) Try.func33 mo rfl (some _) _ _ ?_
          simp (maxSteps := 10000000) (maxDischargeDepth := 300) only [go_sem, reduceIte, reduceCtorEq, Nat.reduceAdd, Nat.reduceMul, Nat.reduceSub, Nat.reduceEqDiff, Nat.reduceBEq, Nat.reduceLT, Int.reduceToNat, Int.reduceLE, Int.reduceLT, Nat.reduceLeDiff, Pg.cells, Ex.cells, St1.cells, isI, I64, Ex.cellsL_length, Ex.cellsL_get, St1.cellsL_length, St1.cellsL_get]
          (repeat' with_reducible apply And.intro) <;> (try first | omega | (simp only [InK]; omega) | (intro k e; cases e; rfl) | (intro hguard; exact ⟨hguard, by simp only [InK]; omega⟩) | kernel_rfl)
          exact ret _ _ _ _ (tr ++ evs m d' ks) _ (by rw [hev]) (by rw [hev]) rfl rfl (by omega) rfl rfl
    · simp (maxSteps := 10000000) (maxDischargeDepth := 300) only [go_sem, reduceIte, reduceCtorEq, Nat.reduceAdd, Nat.reduceMul, Nat.reduceSub, Nat.reduceEqDiff, Nat.reduceBEq, Nat.reduceLT, Int.reduceToNat, Int.reduceLE, Int.reduceLT, Nat.reduceLeDiff, TmOK, DM, DMs, CM, CMs, forall_eq, exists_eq_left, Mq, HpOK, LowOK, Pg.cells, Ex.cells, St1.cells, isI, I64, Ex.cellsL_length, Ex.cellsL_get, St1.cellsL_length, St1.cellsL_get, CMs_tr, arrD]
      simp [evs, vas, CMs_tr, CMs]

def evalP (p : Pg) (m : Mm) (e : Ex) : Int × List Ev × Bool := if progOK p && memOK p.vars p.arrays m && right p e then ((evalE m 5 e).1, (evalE m 5 e).2, true) else (0, [], false)
set_option maxHeartbeats 4000000 in
set_option maxRecDepth 10000 in
theorem evalExprI (p : Pg) (m : Mm) (e : Ex) (hl : p.vars.length ≤ mx) (hl2 : p.arrays.length ≤ mx) : DC Try.prog 13 [.agg p.cells, .agg m.cells, .agg e.cells] [] (fun r h => r = .tup [DI .i64 (evalP p m e).1, .c (trD (evalP p m e).2.1), DB (evalP p m e).2.2] ∧ h = []) := by
  have hv := memoryValidI p m hl hl2
  have hx := expr p e hl hl2
  generalize hR : (fun (r : D) (h : List (Option (List C))) => r = .tup [DI .i64 (evalP p m e).1, .c (trD (evalP p m e).2.1), DB (evalP p m e).2.2] ∧ h = []) = R
  have bad : ∀ hp : Hp, (progOK p && memOK p.vars p.arrays m && right p e) = false → RetOb 0 R (.tup [DI .i64 0, .c (.v (.slice none 0 0)), DB false]) hp := fun hp hb => by
    refine RetOb.ofQ (fun _ => none) [] (.tup [DI .i64 0, .c (trD []), DB false]) [] ?_ (by rw [← hR]; unfold evalP; rw [hb]; exact ⟨rfl, rfl⟩) (by simp)
    simp [enumL, DM, DMs, CM, HpOK, LowOK, trD]
  cases hq : (progOK p && memOK p.vars p.arrays m) with
  | false =>
    have bad2 := fun hp => bad hp (by rw [hq]; rfl)
    rw [hq] at hv
    obtain ⟨vs, ar, bd⟩ := p
    obtain ⟨va, arr⟩ := m
    obtain ⟨k, v, ks⟩ := e
    refine dc_of_go Try.func13 rfl (by simp) ?_
    refine drv_sound (n := 12) (rs := _) Try.func13 mo rfl none _ _ ?_
    simp (maxSteps := 10000000) (maxDischargeDepth := 300) only [go_sem, reduceIte, reduceCtorEq, Nat.reduceAdd, Nat.reduceMul, Nat.reduceSub, Nat.reduceEqDiff, Nat.reduceBEq, Nat.reduceLT, Int.reduceToNat, Int.reduceLE, Int.reduceLT, Nat.reduceLeDiff, Pg.cells, Ex.cells, St1.cells, isI, I64, Ex.cellsL_length, Ex.cellsL_get, St1.cellsL_length, St1.cellsL_get, Mm.cells]
    iterate 2 ((try (refine drv_sound (n := 12) (rs := _) Try.func13 mo rfl _ _ _ ?_; simp (maxSteps := 10000000) (maxDischargeDepth := 300) only [go_sem, reduceIte, reduceCtorEq, Nat.reduceAdd, Nat.reduceMul, Nat.reduceSub, Nat.reduceEqDiff, Nat.reduceBEq, Nat.reduceLT, Int.reduceToNat, Int.reduceLE, Int.reduceLT, Nat.reduceLeDiff, Pg.cells, Ex.cells, St1.cells, isI, I64, Ex.cellsL_length, Ex.cellsL_get, St1.cellsL_length, St1.cellsL_get, Mm.cells])); (try ((with_reducible refine And.intro ?_ ?_) <;> (repeat' with_reducible apply And.intro) <;> (try first | omega | (simp only [InK]; omega) | (intro k e; cases e; rfl) | (intro hguard; exact ⟨hguard, by simp only [InK]; omega⟩) | kernel_rfl))))
    refine XK.plain hv ok15 ?_ (by first | (intro j hj; rfl) | ((repeat (first | exact frL (by simp) | exact frO | refine frU ?_ (by simp only [wkey]; omega))); done) | (intro j hj; simp only [upd, wkey, hpL, hOf, List.getElem?_nil]; (repeat rw [if_neg (by omega)]); done) | (intro j hj; simp only [upd, wkey, hpL, hOf, List.getElem?_nil]; (repeat' split) <;> first | (exfalso; omega) | rfl | (apply List.getElem?_eq_none; simp only [List.length_cons, List.length_nil]; omega)))
    iterate 2 ((try (refine drv_sound (n := 12) (rs := _) Try.func13 mo rfl _ _ _ ?_; simp (maxSteps := 10000000) (maxDischargeDepth := 300) only [go_sem, reduceIte, reduceCtorEq, Nat.reduceAdd, Nat.reduceMul, Nat.reduceSub, Nat.reduceEqDiff, Nat.reduceBEq, Nat.reduceLT, Int.reduceToNat, Int.reduceLE, Int.reduceLT, Nat.reduceLeDiff, Pg.cells, Ex.cells, St1.cells, isI, I64, Ex.cellsL_length, Ex.cellsL_get, St1.cellsL_length, St1.cellsL_get, Mm.cells])); (try ((with_reducible refine And.intro ?_ ?_) <;> (repeat' with_reducible apply And.intro) <;> (try first | omega | (simp only [InK]; omega) | (intro k e; cases e; rfl) | (intro hguard; exact ⟨hguard, by simp only [InK]; omega⟩) | kernel_rfl))))
    refine XK.gskip 4 false (DB true) ?_ (by first | (intro j hj; rfl) | ((repeat (first | exact frL (by simp) | exact frO | refine frU ?_ (by simp only [wkey]; omega))); done) | (intro j hj; simp only [upd, wkey, hpL, hOf, List.getElem?_nil]; (repeat rw [if_neg (by omega)]); done) | (intro j hj; simp only [upd, wkey, hpL, hOf, List.getElem?_nil]; (repeat' split) <;> first | (exfalso; omega) | rfl | (apply List.getElem?_eq_none; simp only [List.length_cons, List.length_nil]; omega)))
    iterate 3 ((try (refine drv_sound (n := 12) (rs := _) Try.func13 mo rfl _ _ _ ?_; simp (maxSteps := 10000000) (maxDischargeDepth := 300) only [go_sem, reduceIte, reduceCtorEq, Nat.reduceAdd, Nat.reduceMul, Nat.reduceSub, Nat.reduceEqDiff, Nat.reduceBEq, Nat.reduceLT, Int.reduceToNat, Int.reduceLE, Int.reduceLT, Nat.reduceLeDiff, Pg.cells, Ex.cells, St1.cells, isI, I64, Ex.cellsL_length, Ex.cellsL_get, St1.cellsL_length, St1.cellsL_get, Mm.cells])); (try ((with_reducible refine And.intro ?_ ?_) <;> (repeat' with_reducible apply And.intro) <;> (try first | omega | (simp only [InK]; omega) | (intro k e; cases e; rfl) | (intro hguard; exact ⟨hguard, by simp only [InK]; omega⟩) | kernel_rfl))))
    exact bad2 _
  | true =>
    rw [hq] at hv
    cases hr : right p e with
    | false =>
      have bad2 := fun hp => bad hp (by rw [hq, hr]; rfl)
      rw [hr] at hx
      obtain ⟨vs, ar, bd⟩ := p
      obtain ⟨va, arr⟩ := m
      obtain ⟨k, v, ks⟩ := e
      refine dc_of_go Try.func13 rfl (by simp) ?_
      refine drv_sound (n := 12) (rs := _) Try.func13 mo rfl none _ _ ?_
      simp (maxSteps := 10000000) (maxDischargeDepth := 300) only [go_sem, reduceIte, reduceCtorEq, Nat.reduceAdd, Nat.reduceMul, Nat.reduceSub, Nat.reduceEqDiff, Nat.reduceBEq, Nat.reduceLT, Int.reduceToNat, Int.reduceLE, Int.reduceLT, Nat.reduceLeDiff, Pg.cells, Ex.cells, St1.cells, isI, I64, Ex.cellsL_length, Ex.cellsL_get, St1.cellsL_length, St1.cellsL_get, Mm.cells]
      iterate 2 ((try (refine drv_sound (n := 12) (rs := _) Try.func13 mo rfl _ _ _ ?_; simp (maxSteps := 10000000) (maxDischargeDepth := 300) only [go_sem, reduceIte, reduceCtorEq, Nat.reduceAdd, Nat.reduceMul, Nat.reduceSub, Nat.reduceEqDiff, Nat.reduceBEq, Nat.reduceLT, Int.reduceToNat, Int.reduceLE, Int.reduceLT, Nat.reduceLeDiff, Pg.cells, Ex.cells, St1.cells, isI, I64, Ex.cellsL_length, Ex.cellsL_get, St1.cellsL_length, St1.cellsL_get, Mm.cells])); (try ((with_reducible refine And.intro ?_ ?_) <;> (repeat' with_reducible apply And.intro) <;> (try first | omega | (simp only [InK]; omega) | (intro k e; cases e; rfl) | (intro hguard; exact ⟨hguard, by simp only [InK]; omega⟩) | kernel_rfl))))
      refine XK.plain hv ok15 ?_ (by first | (intro j hj; rfl) | ((repeat (first | exact frL (by simp) | exact frO | refine frU ?_ (by simp only [wkey]; omega))); done) | (intro j hj; simp only [upd, wkey, hpL, hOf, List.getElem?_nil]; (repeat rw [if_neg (by omega)]); done) | (intro j hj; simp only [upd, wkey, hpL, hOf, List.getElem?_nil]; (repeat' split) <;> first | (exfalso; omega) | rfl | (apply List.getElem?_eq_none; simp only [List.length_cons, List.length_nil]; omega)))
      iterate 2 ((try (refine drv_sound (n := 12) (rs := _) Try.func13 mo rfl _ _ _ ?_; simp (maxSteps := 10000000) (maxDischargeDepth := 300) only [go_sem, reduceIte, reduceCtorEq, Nat.reduceAdd, Nat.reduceMul, Nat.reduceSub, Nat.reduceEqDiff, Nat.reduceBEq, Nat.reduceLT, Int.reduceToNat, Int.reduceLE, Int.reduceLT, Nat.reduceLeDiff, Pg.cells, Ex.cells, St1.cells, isI, I64, Ex.cellsL_length, Ex.cellsL_get, St1.cellsL_length, St1.cellsL_get, Mm.cells])); (try ((with_reducible refine And.intro ?_ ?_) <;> (repeat' with_reducible apply And.intro) <;> (try first | omega | (simp only [InK]; omega) | (intro k e; cases e; rfl) | (intro hguard; exact ⟨hguard, by simp only [InK]; omega⟩) | kernel_rfl))))
      refine XK.gplain 4 false true (fun _ => hx) ok32 ?_ (by first | (intro j hj; rfl) | ((repeat (first | exact frL (by simp) | exact frO | refine frU ?_ (by simp only [wkey]; omega))); done) | (intro j hj; simp only [upd, wkey, hpL, hOf, List.getElem?_nil]; (repeat rw [if_neg (by omega)]); done) | (intro j hj; simp only [upd, wkey, hpL, hOf, List.getElem?_nil]; (repeat' split) <;> first | (exfalso; omega) | rfl | (apply List.getElem?_eq_none; simp only [List.length_cons, List.length_nil]; omega)))
      iterate 3 ((try (refine drv_sound (n := 12) (rs := _) Try.func13 mo rfl _ _ _ ?_; simp (maxSteps := 10000000) (maxDischargeDepth := 300) only [go_sem, reduceIte, reduceCtorEq, Nat.reduceAdd, Nat.reduceMul, Nat.reduceSub, Nat.reduceEqDiff, Nat.reduceBEq, Nat.reduceLT, Int.reduceToNat, Int.reduceLE, Int.reduceLT, Nat.reduceLeDiff, Pg.cells, Ex.cells, St1.cells, isI, I64, Ex.cellsL_length, Ex.cellsL_get, St1.cellsL_length, St1.cellsL_get, Mm.cells])); (try ((with_reducible refine And.intro ?_ ?_) <;> (repeat' with_reducible apply And.intro) <;> (try first | omega | (simp only [InK]; omega) | (intro k e; cases e; rfl) | (intro hguard; exact ⟨hguard, by simp only [InK]; omega⟩) | kernel_rfl))))
      exact bad2 _
    | true =>
      have hev : evalP p m e = ((evalE m 5 e).1, (evalE m 5 e).2, true) := by unfold evalP; rw [hq, hr]; rfl
      have hm := memFits_of hq
      have hsh := right_shape hr
      have hlen := evalE_len (m := m) 5 e hsh.1
      have hje := evalJ p m hm 5 e [] hsh.1 (by simp; omega)
      rw [hr] at hx
      generalize hres : evalE m 5 e = res at *
      obtain ⟨x, tr⟩ := res
      obtain ⟨vs, ar, bd⟩ := p
      obtain ⟨va, arr⟩ := m
      obtain ⟨k, v, ks⟩ := e
      simp only [List.nil_append] at hje
      unfold stJ stJ' at hje
      refine dc_of_go Try.func13 rfl (by simp) ?_
      refine drv_sound (n := 12) (rs := _) Try.func13 mo rfl none _ _ ?_
      simp (maxSteps := 10000000) (maxDischargeDepth := 300) only [go_sem, reduceIte, reduceCtorEq, Nat.reduceAdd, Nat.reduceMul, Nat.reduceSub, Nat.reduceEqDiff, Nat.reduceBEq, Nat.reduceLT, Int.reduceToNat, Int.reduceLE, Int.reduceLT, Nat.reduceLeDiff, Pg.cells, Ex.cells, St1.cells, isI, I64, Ex.cellsL_length, Ex.cellsL_get, St1.cellsL_length, St1.cellsL_get, Mm.cells]
      iterate 2 ((try (refine drv_sound (n := 12) (rs := _) Try.func13 mo rfl _ _ _ ?_; simp (maxSteps := 10000000) (maxDischargeDepth := 300) only [go_sem, reduceIte, reduceCtorEq, Nat.reduceAdd, Nat.reduceMul, Nat.reduceSub, Nat.reduceEqDiff, Nat.reduceBEq, Nat.reduceLT, Int.reduceToNat, Int.reduceLE, Int.reduceLT, Nat.reduceLeDiff, Pg.cells, Ex.cells, St1.cells, isI, I64, Ex.cellsL_length, Ex.cellsL_get, St1.cellsL_length, St1.cellsL_get, Mm.cells])); (try ((with_reducible refine And.intro ?_ ?_) <;> (repeat' with_reducible apply And.intro) <;> (try first | omega | (simp only [InK]; omega) | (intro k e; cases e; rfl) | (intro hguard; exact ⟨hguard, by simp only [InK]; omega⟩) | kernel_rfl))))
      refine XK.plain hv ok15 ?_ (by first | (intro j hj; rfl) | ((repeat (first | exact frL (by simp) | exact frO | refine frU ?_ (by simp only [wkey]; omega))); done) | (intro j hj; simp only [upd, wkey, hpL, hOf, List.getElem?_nil]; (repeat rw [if_neg (by omega)]); done) | (intro j hj; simp only [upd, wkey, hpL, hOf, List.getElem?_nil]; (repeat' split) <;> first | (exfalso; omega) | rfl | (apply List.getElem?_eq_none; simp only [List.length_cons, List.length_nil]; omega)))
      iterate 2 ((try (refine drv_sound (n := 12) (rs := _) Try.func13 mo rfl _ _ _ ?_; simp (maxSteps := 10000000) (maxDischargeDepth := 300) only [go_sem, reduceIte, reduceCtorEq, Nat.reduceAdd, Nat.reduceMul, Nat.reduceSub, Nat.reduceEqDiff, Nat.reduceBEq, Nat.reduceLT, Int.reduceToNat, Int.reduceLE, Int.reduceLT, Nat.reduceLeDiff, Pg.cells, Ex.cells, St1.cells, isI, I64, Ex.cellsL_length, Ex.cellsL_get, St1.cellsL_length, St1.cellsL_get, Mm.cells])); (try ((with_reducible refine And.intro ?_ ?_) <;> (repeat' with_reducible apply And.intro) <;> (try first | omega | (simp only [InK]; omega) | (intro k e; cases e; rfl) | (intro hguard; exact ⟨hguard, by simp only [InK]; omega⟩) | kernel_rfl))))
      refine XK.gplain 4 false true (fun _ => hx) ok32 ?_ (by first | (intro j hj; rfl) | ((repeat (first | exact frL (by simp) | exact frO | refine frU ?_ (by simp only [wkey]; omega))); done) | (intro j hj; simp only [upd, wkey, hpL, hOf, List.getElem?_nil]; (repeat rw [if_neg (by omega)]); done) | (intro j hj; simp only [upd, wkey, hpL, hOf, List.getElem?_nil]; (repeat' split) <;> first | (exfalso; omega) | rfl | (apply List.getElem?_eq_none; simp only [List.length_cons, List.length_nil]; omega)))
      iterate 4 ((try (refine drv_sound (n := 12) (rs := _) Try.func13 mo rfl _ _ _ ?_; simp (maxSteps := 10000000) (maxDischargeDepth := 300) only [go_sem, reduceIte, reduceCtorEq, Nat.reduceAdd, Nat.reduceMul, Nat.reduceSub, Nat.reduceEqDiff, Nat.reduceBEq, Nat.reduceLT, Int.reduceToNat, Int.reduceLE, Int.reduceLT, Nat.reduceLeDiff, Pg.cells, Ex.cells, St1.cells, isI, I64, Ex.cellsL_length, Ex.cellsL_get, St1.cellsL_length, St1.cellsL_get, Mm.cells, List.cons_append, List.nil_append])); (try ((with_reducible refine And.intro ?_ ?_) <;> (repeat' with_reducible apply And.intro) <;> (try first | omega | (simp only [InK]; omega) | (intro k e; cases e; rfl) | (intro hguard; exact ⟨hguard, by simp only [InK]; omega⟩) | kernel_rfl))))
      refine XK.subQ (r := fun j => if j = 0 then some 1152 else none) (fz := []) (tl := [(9, .c (.ptr 0 0)), (24, .c (.ptr 0 0)), (25, .agg (Ex.cells (.mk k v ks)))]) (hl := [(0, some [isI va, .isl 1 (arr.map fun a => [isI a]), .msl 1 2 0 0]), (1, some [])]) ?_ ?_
      · simp [Mq, TmOK, DM, CM, CMs, HpOK, LowOK, hOf, upd, Ex.cells, isI]
      refine XK.callG [0, 1] hje ok33 (hhp2' (by simp [hOf, upd, renCs, renC, rk0, isI, arrD]) (by simp [hOf, upd, renCs_tr, trC, renCs])) (by first | (intro j hj; rfl) | ((repeat (first | exact frL (by simp) | exact frO | refine frU ?_ (by simp only [wkey]; omega))); done) | (intro j hj; simp only [upd, wkey, hpL, hOf, List.getElem?_nil]; (repeat rw [if_neg (by omega)]); done) | (intro j hj; simp only [upd, wkey, hpL, hOf, List.getElem?_nil]; (repeat' split) <;> first | (exfalso; omega) | rfl | (apply List.getElem?_eq_none; simp only [List.length_cons, List.length_nil]; omega))) (fun d h' ⟨_, e⟩ => by subst e; simp) ?_
      rintro _ _ ⟨rfl, rfl⟩ _
      iterate 4 ((try (refine drv_sound (n := 12) (rs := _) Try.func13 mo rfl _ _ _ ?_; simp (maxSteps := 10000000) (maxDischargeDepth := 300) only [go_sem, reduceIte, reduceCtorEq, Nat.reduceAdd, Nat.reduceMul, Nat.reduceSub, Nat.reduceEqDiff, Nat.reduceBEq, Nat.reduceLT, Int.reduceToNat, Int.reduceLE, Int.reduceLT, Nat.reduceLeDiff, Pg.cells, Ex.cells, St1.cells, isI, I64, Ex.cellsL_length, Ex.cellsL_get, St1.cellsL_length, St1.cellsL_get, Mm.cells, renCs_tr, arrD])); (try ((with_reducible refine And.intro ?_ ?_) <;> (repeat' with_reducible apply And.intro) <;> (try first | omega | (simp only [InK]; omega) | (intro k e; cases e; rfl) | (intro hguard; exact ⟨hguard, by simp only [InK]; omega⟩) | kernel_rfl))))
      refine RetOb.ofQ (fun _ => none) [1408] (.tup [DI .i64 x, .c (trD tr), DB true]) [] ?_ (by rw [← hR, hev]; exact ⟨rfl, rfl⟩) (by simp)
      have e5 : (tr.map Ev.cells).flatten = trC tr := rfl
      simp [enumL, DM, DMs, CM, HpOK, LowOK, trD, hOf, upd, e5]
      exact ⟨fun a _ => rfl, fun a _ c hc => by
        simp only [Ev.cells, List.mem_cons, List.not_mem_nil, or_false] at hc
        rcases hc with rfl | rfl <;> rfl⟩
end Go.Proofs.Ytajamdnbncploaa.CtR
