/- Contracts of functions of the program, one behind the other, as plain data: what each call returns and which blocks it leaves. -/
import Derived.Test.YtclgjiffpijgmaaFacts
import Derived.Test.YtclgjiffpijgmaaVa
import Derived.Test.YtclgjiffpijgmaaVb
import Derived.Test.YtclgjiffpijgmaaRa
import Derived.Test.YtclgjiffpijgmaaRb
import Derived.Test.YtclgjiffpijgmaaVc
set_option linter.unusedVariables false
set_option linter.unusedSimpArgs false
namespace Go.Proofs.Ytclgjiffpijgmaa.CtR
open Go Go.CT CtF

def stP (p : Pg) (m : Mm) (tr : List Ev) : List (Option (List C)) := [some [.msl 2 1 0 p.vars.length, .msl 3 1 0 p.arrays.length, .msl 1 2 0 tr.length], some (trC tr), some (m.vals.map I64), some (hdr 4 5 p.arrays.length), some (blk0 m.arrays), some (blk1 m.arrays)]
def stP' (p : Pg) (m : Mm) (tr : List Ev) : List (Option (List C)) := [some [.msl 2 1 0 p.vars.length, .msl 3 1 0 p.arrays.length, .msl 6 2 0 tr.length], none, some (m.vals.map I64), some (hdr 4 5 p.arrays.length), some (blk0 m.arrays), some (blk1 m.arrays), some (trC tr)]

theorem evalI2 (p : Pg) (m : Mm) (hm : MemFits p m) (e : Ex) (tr : List Ev) (hr : right p e = true) (htr : tr.length + 15 ≤ 1073741824) : DC Try.prog 103 [.c (.ptr 0 0), .agg e.cells] [some [.msl 2 1 0 p.vars.length, .msl 3 1 0 p.arrays.length, .msl 1 2 0 tr.length], some (trC tr), some (m.vals.map I64), some (hdr 4 5 p.arrays.length), some (blk0 m.arrays), some (blk1 m.arrays)]
    (fun r h => r = DI .i64 (evalE m 5 e).1 ∧ h = stP' p m (tr ++ (evalE m 5 e).2)) := by
  have hs := right_shape hr
  have h := evalI p m hm 5 e tr hs.1 (by omega)
  unfold stI stI' at h
  rw [hm.nv, hm.na] at h
  exact h
theorem event2 (p : Pg) (m : Mm) (hm : MemFits p m) (k0 v0 : Int) (tr : List Ev) (htr : tr.length + 1 ≤ 1073741824) : DC Try.prog 104 [.c (.ptr 0 0), DI .i64 k0, DI .i64 v0] [some [.msl 2 1 0 p.vars.length, .msl 3 1 0 p.arrays.length, .msl 1 2 0 tr.length], some (trC tr), some (m.vals.map I64), some (hdr 4 5 p.arrays.length), some (blk0 m.arrays), some (blk1 m.arrays)] (fun d h => d = .tup [] ∧ h = stP' p m (tr ++ [⟨k0, v0⟩])) := by
  have h := event m k0 v0 tr htr
  unfold stI stI' at h
  rw [hm.nv, hm.na] at h
  exact h

theorem mqRunI {S : Ms} {p : Pg} {l : List St1} {M : Mm} {T : List Ev} {i kt n : Nat} {cs c2 c4 c5 : List C} (h0 : S.hp 0 = some (some [.msl 2 1 0 p.vars.length, .msl 3 1 0 p.arrays.length, .msl kt 2 0 n])) (t0 : S.tm 0 = some (.c (.ptr 0 0))) (t8 : S.tm 8 = some (.c (.isl 11 (St1.cellsL l)))) (t9 : S.tm 9 = some (DI .i64 l.length)) (t10 : S.tm 10 = some (DI .i64 i))
    (h2 : S.hp 2 = some (some c2)) (h3 : S.hp 3 = some (some (hdr 4 5 p.arrays.length))) (h4 : S.hp 4 = some (some c4)) (h5 : S.hp 5 = some (some c5)) (hk : S.hp kt = some (some cs))
    (hkt : 6 ≤ kt) (e2 : c2 = M.vals.map I64) (e4 : c4 = blk0 M.arrays) (e5 : c5 = blk1 M.arrays) (hcs : cs = trC T) (hn : n = T.length) :
    Mq 6 (fun j => if j = 20 then some kt else some j) [] [(0, .c (.ptr 0 0)), (8, .c (.isl 11 (St1.cellsL l))), (9, DI .i64 l.length), (10, DI .i64 i)]
      [(0, some [.msl 2 1 0 p.vars.length, .msl 3 1 0 p.arrays.length, .msl 20 2 0 T.length]), (1, none), (2, some (M.vals.map I64)), (3, some (hdr 4 5 p.arrays.length)), (4, some (blk0 M.arrays)), (5, some (blk1 M.arrays)), (20, some (trC T))] S := by
  subst hcs hn e2 e4 e5
  simp [Mq, TmOK, t0, t8, t9, t10, h0, h2, h3, h4, h5, hk, DM, CM, CMs, HpOK, LowOK, hOf, upd, CMs_I, CMs_tr, CMs_hdr, CMs_b0, CMs_b1]
  omega
theorem mqRepI {S : Ms} {p : Pg} {l : List St1} {M : Mm} {T : List Ev} {i j0 kt ks n : Nat} {c : Int} {cs c2 c4 c5 ss : List C} (hss : ∀ c ∈ ss, kf c = true) (h0 : S.hp 0 = some (some [.msl 2 1 0 p.vars.length, .msl 3 1 0 p.arrays.length, .msl kt 2 0 n])) (t5 : S.tm 5 = some (.c (.ptr ks 0))) (t0 : S.tm 0 = some (.c (.ptr 0 0))) (t8 : S.tm 8 = some (.c (.isl 11 (St1.cellsL l)))) (t9 : S.tm 9 = some (DI .i64 l.length)) (t10 : S.tm 10 = some (DI .i64 i)) (t18 : S.tm 18 = some (DI .i64 c)) (t19 : S.tm 19 = some (DI .i64 j0))
    (h2 : S.hp 2 = some (some c2)) (h3 : S.hp 3 = some (some (hdr 4 5 p.arrays.length))) (h4 : S.hp 4 = some (some c4)) (h5 : S.hp 5 = some (some c5)) (hk : S.hp kt = some (some cs)) (hs : S.hp ks = some (some ss))
    (hkt : 6 ≤ kt ∧ 6 ≤ ks ∧ kt ≠ ks) (e2 : c2 = M.vals.map I64) (e4 : c4 = blk0 M.arrays) (e5 : c5 = blk1 M.arrays) (hcs : cs = trC T) (hn : n = T.length) :
    Mq 6 (fun j => if j = 20 then some kt else if j = 22 then some ks else some j) [] [(0, .c (.ptr 0 0)), (8, .c (.isl 11 (St1.cellsL l))), (9, DI .i64 l.length), (10, DI .i64 i), (5, .c (.ptr 22 0)), (18, DI .i64 c), (19, DI .i64 j0)]
      [(0, some [.msl 2 1 0 p.vars.length, .msl 3 1 0 p.arrays.length, .msl 20 2 0 T.length]), (1, none), (2, some (M.vals.map I64)), (3, some (hdr 4 5 p.arrays.length)), (4, some (blk0 M.arrays)), (5, some (blk1 M.arrays)), (20, some (trC T)), (22, some ss)] S := by
  subst hcs hn e2 e4 e5
  refine ⟨?_, ⟨?_, ?_, ?_, ?_, ?_, ?_, ?_, ?_, ?_⟩, ?_, ?_⟩
  all_goals simp [TmOK, t0, t5, t8, t9, t10, t18, t19, h0, h2, h3, h4, h5, hk, hs, DM, CM, CMs, HpOK, LowOK, hOf, upd, CMs_I, CMs_tr, CMs_hdr, CMs_b0, CMs_b1]
  · exact CMs.kf hss
  · omega

set_option maxHeartbeats 8000000 in
set_option maxRecDepth 10000 in
theorem runIOf (p : Pg) (d : Nat)
    (ih : ∀ d', d = d' + 1 → ∀ (m : Mm) (l : List St1) (tr : List Ev), MemFits p m → (∀ s ∈ l, stmtOK p d' s = true) → tr.length + wt d' * lsize d' l ≤ 1073741824 → DC Try.prog 61 [.c (.ptr 0 0), .c (.isl 11 (St1.cellsL l))] [some [.msl 2 1 0 p.vars.length, .msl 3 1 0 p.arrays.length, .msl 1 2 0 tr.length], some (trC tr), some (m.vals.map I64), some (hdr 4 5 p.arrays.length), some (blk0 m.arrays), some (blk1 m.arrays)] (fun r h => r = .tup [] ∧ h = stP' p (runL d' m l).1 (tr ++ (runL d' m l).2)))
    (m : Mm) (l : List St1) (tr : List Ev) (hm : MemFits p m) (hok : ∀ s ∈ l, stmtOK p d s = true) (htr : tr.length + wt d * lsize d l ≤ 1073741824) :
    DC Try.prog 61 [.c (.ptr 0 0), .c (.isl 11 (St1.cellsL l))] [some [.msl 2 1 0 p.vars.length, .msl 3 1 0 p.arrays.length, .msl 1 2 0 tr.length], some (trC tr), some (m.vals.map I64), some (hdr 4 5 p.arrays.length), some (blk0 m.arrays), some (blk1 m.arrays)] (fun r h => r = .tup [] ∧ h = stP' p (runL d m l).1 (tr ++ (runL d m l).2)) := by
  have hmx := mx_eq
  generalize hR : (fun (r : D) (h : List (Option (List C))) => r = .tup [] ∧ h = stP' p (runL d m l).1 (tr ++ (runL d m l).2)) = R
  have ret : ∀ (kt n : Nat) (cs : List C) (tr' : List Ev) (hp : Hp), tr' = tr ++ (runL d m l).2 → hp 0 = some (some [.msl 2 1 0 p.vars.length, .msl 3 1 0 p.arrays.length, .msl kt 2 0 n]) → hp 2 = some (some ((runL d m l).1.vals.map I64)) → hp 3 = some (some (hdr 4 5 p.arrays.length)) → hp 4 = some (some (blk0 (runL d m l).1.arrays)) → hp 5 = some (some (blk1 (runL d m l).1.arrays)) →
      hp kt = some (some cs) → 6 ≤ kt → cs = trC tr' → n = tr'.length → RetOb 6 R (.tup []) hp := by
    rintro kt n cs tr' hp rfl h0 h2 h3 h4 h5 hk hkt rfl rfl
    subst hR
    refine RetOb.ofQ (fun j => if j = 6 then some kt else some j) [] (.tup []) (stP' p (runL d m l).1 (tr ++ (runL d m l).2)) ?_ ⟨rfl, rfl⟩ (by simp [stP'])
    simp [stP', enumL, hOf, DM, DMs, CM, CMs, HpOK, LowOK, upd, CMs_I, CMs_tr, CMs_hdr, CMs_b0, CMs_b1, h0, h2, h3, h4, h5, hk]
    omega
  refine dc_of_go Try.func61 rfl (by simp) ?_
  refine drv_sound (n := 12) (rs := _) Try.func61 mo rfl none _ _ ?_
  simp (maxSteps := 10000000) (maxDischargeDepth := 300) only [go_sem, Pg.cells, Ex.cells, St1.cells, isI, I64, Ex.cellsL_length, Ex.cellsL_get, St1.cellsL_length, St1.cellsL_get]
  iterate 2 (try (refine drv_sound (n := 12) (rs := _) Try.func61 mo rfl _ _ _ ?_; simp (maxSteps := 10000000) (maxDischargeDepth := 300) only [go_sem, Pg.cells, Ex.cells, St1.cells, isI, I64, Ex.cellsL_length, Ex.cellsL_get, St1.cellsL_length, St1.cellsL_get]))
  refine Go.loopQ (fun i : Nat => [(0, .c (.ptr 0 0)), (8, .c (.isl 11 (St1.cellsL l))), (9, DI .i64 l.length), (10, DI .i64 i)])
    (fun i => [(0, some [.msl 2 1 0 p.vars.length, .msl 3 1 0 p.arrays.length, .msl 20 2 0 (tr ++ (runL d m (l.take i)).2).length]), (1, none), (2, some ((runL d m (l.take i)).1.vals.map I64)), (3, some (hdr 4 5 p.arrays.length)), (4, some (blk0 (runL d m (l.take i)).1.arrays)), (5, some (blk1 (runL d m (l.take i)).1.arrays)), (20, some (trC (tr ++ (runL d m (l.take i)).2)))])
    4096 (fun i => i ≤ l.length) (fun i => l.length - i) ?_ 0 (fun j => if j = 20 then some 1 else some j) [] _ (Nat.zero_le _) ?_
  · intro i hi again
    have hmi := (runL_ok (l := l.take i) hm (fun s hs => hok s (List.mem_of_mem_take hs))).1
    rcases Nat.lt_or_ge i l.length with hlt | hge
    · obtain ⟨⟨k, t, ⟨ik, iv, iks⟩, ⟨vk, vv, vks⟩, c, b, e⟩, hx⟩ : ∃ x, l[i]? = some x := ⟨l[i], by simp [hlt]⟩
      have hmem := List.mem_of_getElem? hx
      have hsk := hok _ hmem
      have hsucc := runL_succ d m l i _ hx
      have hlen : (runL d m (l.take i)).2.length + wt d * tsize d (.mk k t (.mk ik iv iks) (.mk vk vv vks) c b e) ≤ wt d * lsize d l := by
        have hbi := (runL_ok (l := l.take i) hm (fun s hs => hok s (List.mem_of_mem_take hs))).2
        have g2 := tsum_succ (tsize d) l i _ hx
        have g3 := tsum_le (tsize d) l (i + 1)
        unfold tsum at g2 g3
        have g4 : lsize d (l.take i) + tsize d (.mk k t (.mk ik iv iks) (.mk vk vv vks) c b e) ≤ lsize d l := by unfold lsize; omega
        have g5 := Nat.mul_le_mul_left (wt d) g4
        rw [Nat.mul_add] at g5
        omega
      generalize hmm : (runL d m (l.take i)).1 = mi at *
      generalize htt : tr ++ (runL d m (l.take i)).2 = ti at *
      have hn1 : (runL d m (l.take (i + 1))).1 = (runS d mi (.mk k t (.mk ik iv iks) (.mk vk vv vks) c b e)).1 := by rw [hsucc]
      have hn2 : tr ++ (runL d m (l.take (i + 1))).2 = ti ++ (runS d mi (.mk k t (.mk ik iv iks) (.mk vk vv vks) c b e)).2 := by rw [hsucc, ← htt, List.append_assoc]
      have htl : ti.length + wt d * tsize d (.mk k t (.mk ik iv iks) (.mk vk vv vks) c b e) ≤ 1073741824 := by rw [← htt, List.length_append]; omega
      obtain ⟨d', rfl⟩ : ∃ d', d = d' + 1 := by
        cases d with
        | zero => simp [stmtOK] at hsk
        | succ d' => exact ⟨d', rfl⟩
      have ih := ih d' rfl
      have hil := len_le_lsize (d := d') l
      have hwl : lsize (d' + 1) l ≤ wt (d' + 1) * lsize (d' + 1) l := Nat.le_mul_of_pos_left _ (by unfold wt; have : 0 < 3 ^ (d' + 1) := Nat.pow_pos (by decide); omega)
      obtain ⟨hh, hb, he⟩ := stmtOK_succ hsk
      rcases head_kind hh with ⟨hk, ht0, ht1, hr⟩ | ⟨hk, ht0, ht1, hri, hai, hr⟩ | ⟨hk, hr⟩ | ⟨hk, hc1, hc3⟩
      · have htv : t < mi.vals.length := by rw [hmi.nv]; exact ht1
        rcases hk with hk | hk
        · subst hk
          have hw1 : 20 ≤ wt (d' + 1) * tsize (d' + 1) (.mk 1 t (.mk ik iv iks) (.mk vk vv vks) c b e) := by
            have g1 := tsize_pos (d := d') (.mk 1 t (.mk ik iv iks) (.mk vk vv vks) c b e)
            have g2 : 20 ≤ wt (d' + 1) := by unfold wt; have : 0 < 3 ^ (d' + 1) := Nat.pow_pos (by decide); omega
            have g3 := Nat.mul_le_mul g2 g1
            omega
          have hs := right_shape hr
          have he1 := evalE_range hmi 5 (.mk vk vv vks) hs.1
          have he2 := evalE_len (m := mi) 5 (.mk vk vv vks) hs.1
          have htl2 := trC_len (ti ++ (evalE mi 5 (.mk vk vv vks)).2)
          have hll : (ti ++ (evalE mi 5 (.mk vk vv vks)).2).length = ti.length + (evalE mi 5 (.mk vk vv vks)).2.length := List.length_append
          have hrun : runS (d' + 1) mi (.mk 1 t (.mk ik iv iks) (.mk vk vv vks) c b e) = (setV mi t (evalE mi 5 (.mk vk vv vks)).1, (evalE mi 5 (.mk vk vv vks)).2) := rfl
          rw [hrun] at hn1 hn2
          refine drv_sound (n := 12) (rs := _) Try.func61 mo rfl none _ _ ?_
          simp (maxSteps := 10000000) (maxDischargeDepth := 300) only [go_sem, hx, hlt, Pg.cells, Ex.cells, St1.cells, isI, I64, Ex.cellsL_length, Ex.cellsL_get, St1.cellsL_length, St1.cellsL_get, List.cons_append, List.nil_append, Int.reduceEq, Int.reduceBEq, Int.reduceBNe, renCs_I, renCs_hdr, renCs_b0, renCs_b1, renCs_tr]
          iterate 3 (try (refine drv_sound (n := 12) (rs := _) Try.func61 mo rfl _ _ _ ?_; simp (maxSteps := 10000000) (maxDischargeDepth := 300) only [go_sem, hx, hlt, Pg.cells, Ex.cells, St1.cells, isI, I64, Ex.cellsL_length, Ex.cellsL_get, St1.cellsL_length, St1.cellsL_get, List.cons_append, List.nil_append, Int.reduceEq, Int.reduceBEq, Int.reduceBNe, renCs_I, renCs_hdr, renCs_b0, renCs_b1, renCs_tr]))
          refine XK.callG [0, 20, 2, 3, 4, 5] (evalI2 p mi hmi (.mk vk vv vks) ti hr (by omega)) ok103 (hhp6 (by simp [hOf, upd, renCs, renC, rk0]) (by simp [hOf, upd, renCs_tr, renCs, renC]) (by simp [hOf, upd, renCs_I]) (by simp [hOf, upd, renCs_hdr, rk0]) (by simp [hOf, upd, renCs_b0]) (by simp [hOf, upd, renCs_b1])) (hbT ()) (fun d h' ⟨_, e⟩ => by subst e; simp [stP']) ?_
          rintro _ _ ⟨rfl, rfl⟩ _
          unfold stP'
          iterate 4 (try (refine drv_sound (n := 12) (rs := _) Try.func61 mo rfl _ _ _ ?_; simp (maxSteps := 10000000) (maxDischargeDepth := 300) only [go_sem, hx, hlt, Pg.cells, Ex.cells, St1.cells, isI, I64, Ex.cellsL_length, Ex.cellsL_get, St1.cellsL_length, St1.cellsL_get, List.cons_append, List.nil_append, Int.reduceEq, Int.reduceBEq, Int.reduceBNe, renCs_I, renCs_hdr, renCs_b0, renCs_b1, renCs_tr]))
          (repeat' with_reducible apply And.intro) <;> (try first | omega | (simp only [InK]; omega) | (intro k e; cases e; rfl) | (intro hguard; exact ⟨hguard, by simp only [InK]; omega⟩) | kernel_rfl)
          iterate 2 (try (refine drv_sound (n := 12) (rs := _) Try.func61 mo rfl _ _ _ ?_; simp (maxSteps := 10000000) (maxDischargeDepth := 300) only [go_sem, hx, hlt, Pg.cells, Ex.cells, St1.cells, isI, I64, Ex.cellsL_length, Ex.cellsL_get, St1.cellsL_length, St1.cellsL_get, List.cons_append, List.nil_append, Int.reduceEq, Int.reduceBEq, Int.reduceBNe, renCs_I, renCs_hdr, renCs_b0, renCs_b1, renCs_tr]))
          (repeat' with_reducible apply And.intro) <;> (try first | omega | (simp only [InK]; omega) | (intro k e; cases e; rfl) | (intro hguard; exact ⟨hguard, by simp only [InK]; omega⟩) | kernel_rfl)
          have ag := again (i + 1)
          simp only [hn1, hn2] at ag
          exact ag _ [] _ hlt (by omega) (mqRunI rfl rfl rfl rfl rfl rfl rfl rfl rfl rfl (by decide) (map_setV _ _ _).symm rfl rfl rfl rfl)
        · subst hk
          have hw1 : 20 ≤ wt (d' + 1) * tsize (d' + 1) (.mk 5 t (.mk ik iv iks) (.mk vk vv vks) c b e) := by
            have g1 := tsize_pos (d := d') (.mk 5 t (.mk ik iv iks) (.mk vk vv vks) c b e)
            have g2 : 20 ≤ wt (d' + 1) := by unfold wt; have : 0 < 3 ^ (d' + 1) := Nat.pow_pos (by decide); omega
            have g3 := Nat.mul_le_mul g2 g1
            omega
          have hs := right_shape hr
          have he1 := evalE_range hmi 5 (.mk vk vv vks) hs.1
          have he2 := evalE_len (m := mi) 5 (.mk vk vv vks) hs.1
          have htl2 := trC_len (ti ++ (evalE mi 5 (.mk vk vv vks)).2)
          have hll : (ti ++ (evalE mi 5 (.mk vk vv vks)).2).length = ti.length + (evalE mi 5 (.mk vk vv vks)).2.length := List.length_append
          have hrun : runS (d' + 1) mi (.mk 5 t (.mk ik iv iks) (.mk vk vv vks) c b e) = (setV mi t (evalE mi 5 (.mk vk vv vks)).1, (evalE mi 5 (.mk vk vv vks)).2 ++ [⟨4, (evalE mi 5 (.mk vk vv vks)).1⟩]) := rfl
          rw [hrun] at hn1 hn2
          refine drv_sound (n := 12) (rs := _) Try.func61 mo rfl none _ _ ?_
          simp (maxSteps := 10000000) (maxDischargeDepth := 300) only [go_sem, hx, hlt, Pg.cells, Ex.cells, St1.cells, isI, I64, Ex.cellsL_length, Ex.cellsL_get, St1.cellsL_length, St1.cellsL_get, List.cons_append, List.nil_append, Int.reduceEq, Int.reduceBEq, Int.reduceBNe, renCs_I, renCs_hdr, renCs_b0, renCs_b1, renCs_tr]
          iterate 3 (try (refine drv_sound (n := 12) (rs := _) Try.func61 mo rfl _ _ _ ?_; simp (maxSteps := 10000000) (maxDischargeDepth := 300) only [go_sem, hx, hlt, Pg.cells, Ex.cells, St1.cells, isI, I64, Ex.cellsL_length, Ex.cellsL_get, St1.cellsL_length, St1.cellsL_get, List.cons_append, List.nil_append, Int.reduceEq, Int.reduceBEq, Int.reduceBNe, renCs_I, renCs_hdr, renCs_b0, renCs_b1, renCs_tr]))
          refine XK.callG [0, 20, 2, 3, 4, 5] (evalI2 p mi hmi (.mk vk vv vks) ti hr (by omega)) ok103 (hhp6 (by simp [hOf, upd, renCs, renC, rk0]) (by simp [hOf, upd, renCs_tr, renCs, renC]) (by simp [hOf, upd, renCs_I]) (by simp [hOf, upd, renCs_hdr, rk0]) (by simp [hOf, upd, renCs_b0]) (by simp [hOf, upd, renCs_b1])) (hbT ()) (fun d h' ⟨_, e⟩ => by subst e; simp [stP']) ?_
          rintro _ _ ⟨rfl, rfl⟩ _
          unfold stP'
          iterate 4 (try (refine drv_sound (n := 12) (rs := _) Try.func61 mo rfl _ _ _ ?_; simp (maxSteps := 10000000) (maxDischargeDepth := 300) only [go_sem, hx, hlt, Pg.cells, Ex.cells, St1.cells, isI, I64, Ex.cellsL_length, Ex.cellsL_get, St1.cellsL_length, St1.cellsL_get, List.cons_append, List.nil_append, Int.reduceEq, Int.reduceBEq, Int.reduceBNe, renCs_I, renCs_hdr, renCs_b0, renCs_b1, renCs_tr]))
          (repeat' with_reducible apply And.intro) <;> (try first | omega | (simp only [InK]; omega) | (intro k e; cases e; rfl) | (intro hguard; exact ⟨hguard, by simp only [InK]; omega⟩) | kernel_rfl)
          iterate 2 (try (refine drv_sound (n := 12) (rs := _) Try.func61 mo rfl _ _ _ ?_; simp (maxSteps := 10000000) (maxDischargeDepth := 300) only [go_sem, hx, hlt, Pg.cells, Ex.cells, St1.cells, isI, I64, Ex.cellsL_length, Ex.cellsL_get, St1.cellsL_length, St1.cellsL_get, List.cons_append, List.nil_append, Int.reduceEq, Int.reduceBEq, Int.reduceBNe, renCs_I, renCs_hdr, renCs_b0, renCs_b1, renCs_tr]))
          (repeat' with_reducible apply And.intro) <;> (try first | omega | (simp only [InK]; omega) | (intro k e; cases e; rfl) | (intro hguard; exact ⟨hguard, by simp only [InK]; omega⟩) | kernel_rfl)
          refine XK.callG [0, 4800, 2, 3, 4, 5] (event2 p mi hmi 4 (evalE mi 5 (.mk vk vv vks)).1 (ti ++ (evalE mi 5 (.mk vk vv vks)).2) (by omega)) ok104 (hhp6 (by simp [hOf, upd, renCs, renC, rk0]) (by simp [hOf, upd, renCs_tr, renCs, renC]) (by simp [hOf, upd, renCs_I]) (by simp [hOf, upd, renCs_hdr, rk0]) (by simp [hOf, upd, renCs_b0]) (by simp [hOf, upd, renCs_b1])) (hbT ()) (fun d h' ⟨_, e⟩ => by subst e; simp [stP']) ?_
          rintro _ _ ⟨rfl, rfl⟩ _
          unfold stP'
          iterate 3 (try (refine drv_sound (n := 12) (rs := _) Try.func61 mo rfl _ _ _ ?_; simp (maxSteps := 10000000) (maxDischargeDepth := 300) only [go_sem, hx, hlt, Pg.cells, Ex.cells, St1.cells, isI, I64, Ex.cellsL_length, Ex.cellsL_get, St1.cellsL_length, St1.cellsL_get, List.cons_append, List.nil_append, Int.reduceEq, Int.reduceBEq, Int.reduceBNe, renCs_I, renCs_hdr, renCs_b0, renCs_b1, renCs_tr]))
          (repeat' with_reducible apply And.intro) <;> (try first | omega | (simp only [InK]; omega) | (intro k e; cases e; rfl) | (intro hguard; exact ⟨hguard, by simp only [InK]; omega⟩) | kernel_rfl)
          iterate 2 (try (refine drv_sound (n := 12) (rs := _) Try.func61 mo rfl _ _ _ ?_; simp (maxSteps := 10000000) (maxDischargeDepth := 300) only [go_sem, hx, hlt, Pg.cells, Ex.cells, St1.cells, isI, I64, Ex.cellsL_length, Ex.cellsL_get, St1.cellsL_length, St1.cellsL_get, List.cons_append, List.nil_append, Int.reduceEq, Int.reduceBEq, Int.reduceBNe, renCs_I, renCs_hdr, renCs_b0, renCs_b1, renCs_tr]))
          (repeat' with_reducible apply And.intro) <;> (try first | omega | (simp only [InK]; omega) | (intro k e; cases e; rfl) | (intro hguard; exact ⟨hguard, by simp only [InK]; omega⟩) | kernel_rfl)
          have ag := again (i + 1)
          simp only [hn1, hn2] at ag
          exact ag _ [] _ hlt (by omega) (mqRunI rfl rfl rfl rfl rfl rfl rfl rfl rfl rfl (by decide) (map_setV _ _ _).symm rfl rfl (by rw [← List.append_assoc]) (by rw [← List.append_assoc]))
      · subst hk
        have htv : t < mi.arrays.length := by rw [hmi.na]; exact ht1
        have hw1 : 60 ≤ wt (d' + 1) * tsize (d' + 1) (.mk 2 t (.mk ik iv iks) (.mk vk vv vks) c b e) := by
          have g1 := tsize_pos (d := d') (.mk 2 t (.mk ik iv iks) (.mk vk vv vks) c b e)
          have g2 : 60 ≤ wt (d' + 1) := by unfold wt; rw [Nat.pow_succ]; have : 0 < 3 ^ d' := Nat.pow_pos (by decide); omega
          have g3 := Nat.mul_le_mul g2 g1
          omega
        have hs := right_shape hr
        have he1 := evalE_range hmi 5 (.mk vk vv vks) hs.1
        have he2 := evalE_len (m := mi) 5 (.mk vk vv vks) hs.1
        have htl2 := trC_len (ti ++ (evalE mi 5 (.mk vk vv vks)).2)
        have hll : (ti ++ (evalE mi 5 (.mk vk vv vks)).2).length = ti.length + (evalE mi 5 (.mk vk vv vks)).2.length := List.length_append
        have hsi := right_shape hri
        have hi1 := evalE_range hmi 5 (.mk ik iv iks) hsi.1
        have hi2 : (evalE mi 5 (.mk ik iv iks)).2 = [] := by
          simp only [atom, Ex.kind, Bool.or_eq_true, beq_iff_eq] at hai
          rcases hai with h | h
          · subst h; simp [evalE]
          · subst h; simp [evalE]
        refine drv_sound (n := 12) (rs := _) Try.func61 mo rfl none _ _ ?_
        simp (maxSteps := 10000000) (maxDischargeDepth := 300) only [go_sem, hx, hlt, Pg.cells, Ex.cells, St1.cells, isI, I64, Ex.cellsL_length, Ex.cellsL_get, St1.cellsL_length, St1.cellsL_get, List.cons_append, List.nil_append, Int.reduceEq, Int.reduceBEq, Int.reduceBNe, renCs_I, renCs_hdr, renCs_b0, renCs_b1, renCs_tr]
        iterate 3 (try (refine drv_sound (n := 12) (rs := _) Try.func61 mo rfl _ _ _ ?_; simp (maxSteps := 10000000) (maxDischargeDepth := 300) only [go_sem, hx, hlt, Pg.cells, Ex.cells, St1.cells, isI, I64, Ex.cellsL_length, Ex.cellsL_get, St1.cellsL_length, St1.cellsL_get, List.cons_append, List.nil_append, Int.reduceEq, Int.reduceBEq, Int.reduceBNe, renCs_I, renCs_hdr, renCs_b0, renCs_b1, renCs_tr]))
        refine XK.callG [0, 20, 2, 3, 4, 5] (evalI2 p mi hmi (.mk vk vv vks) ti hr (by omega)) ok103 (hhp6 (by simp [hOf, upd, renCs, renC, rk0]) (by simp [hOf, upd, renCs_tr, renCs, renC]) (by simp [hOf, upd, renCs_I]) (by simp [hOf, upd, renCs_hdr, rk0]) (by simp [hOf, upd, renCs_b0]) (by simp [hOf, upd, renCs_b1])) (hbT ()) (fun d h' ⟨_, e⟩ => by subst e; simp [stP']) ?_
        rintro _ _ ⟨rfl, rfl⟩ _
        unfold stP'
        iterate 4 (try (refine drv_sound (n := 12) (rs := _) Try.func61 mo rfl _ _ _ ?_; simp (maxSteps := 10000000) (maxDischargeDepth := 300) only [go_sem, hx, hlt, Pg.cells, Ex.cells, St1.cells, isI, I64, Ex.cellsL_length, Ex.cellsL_get, St1.cellsL_length, St1.cellsL_get, List.cons_append, List.nil_append, Int.reduceEq, Int.reduceBEq, Int.reduceBNe, renCs_I, renCs_hdr, renCs_b0, renCs_b1, renCs_tr]))
        (repeat' with_reducible apply And.intro) <;> (try first | omega | (simp only [InK]; omega) | (intro k e; cases e; rfl) | (intro hguard; exact ⟨hguard, by simp only [InK]; omega⟩) | kernel_rfl)
        iterate 2 (try (refine drv_sound (n := 12) (rs := _) Try.func61 mo rfl _ _ _ ?_; simp (maxSteps := 10000000) (maxDischargeDepth := 300) only [go_sem, hx, hlt, Pg.cells, Ex.cells, St1.cells, isI, I64, Ex.cellsL_length, Ex.cellsL_get, St1.cellsL_length, St1.cellsL_get, List.cons_append, List.nil_append, Int.reduceEq, Int.reduceBEq, Int.reduceBNe, renCs_I, renCs_hdr, renCs_b0, renCs_b1, renCs_tr]))
        (repeat' with_reducible apply And.intro) <;> (try first | omega | (simp only [InK]; omega) | (intro k e; cases e; rfl) | (intro hguard; exact ⟨hguard, by simp only [InK]; omega⟩) | kernel_rfl)
        refine XK.callG [0, 4800, 2, 3, 4, 5] (evalI2 p mi hmi (.mk ik iv iks) (ti ++ (evalE mi 5 (.mk vk vv vks)).2) hri (by omega)) ok103 (hhp6 (by simp [hOf, upd, renCs, renC, rk0]) (by simp [hOf, upd, renCs_tr, renCs, renC]) (by simp [hOf, upd, renCs_I]) (by simp [hOf, upd, renCs_hdr, rk0]) (by simp [hOf, upd, renCs_b0]) (by simp [hOf, upd, renCs_b1])) (hbT ()) (fun d h' ⟨_, e⟩ => by subst e; simp [stP']) ?_
        rintro _ _ ⟨rfl, rfl⟩ _
        unfold stP'
        rw [hi2, List.append_nil]
        have hv2 : t = 0 ∨ t = 1 := by have := hmi.na2; omega
        rcases hv2 with hv2 | hv2
        · subst hv2
          have hnap : 0 < mi.arrays.length := by omega
          have hh : (hdr 4 5 p.arrays.length)[0]? = some (.msl 4 1 0 4) := by
            rw [← hmi.na]; unfold hdr; match mi.arrays.length, hnap with | n + 1, _ => rfl
          have h4 := (hmi.arr _ (arrAt_mem (m := mi) (v := 0) (by omega) (by omega)).2).1
          have hbl : (blk0 mi.arrays).length = 4 := by
            have e : mi.arrays[0]? = some (arrAt mi 0) := (arrAt_mem (m := mi) (v := 0) (by omega) (by omega)).1
            unfold blk0; rw [e, Option.getD_some, List.length_map, h4]
          have hx1 := Int.emod_nonneg (evalE mi 5 (.mk ik iv iks)).1 (show (4 : Int) ≠ 0 by decide)
          have hx2 := Int.emod_lt_of_pos (evalE mi 5 (.mk ik iv iks)).1 (show (0 : Int) < 4 by decide)
          have hrun : runS (d' + 1) mi (.mk 2 0 (.mk ik iv iks) (.mk vk vv vks) c b e) = (setA mi 0 ((evalE mi 5 (.mk ik iv iks)).1 % 4) (evalE mi 5 (.mk vk vv vks)).1, (evalE mi 5 (.mk vk vv vks)).2 ++ [⟨3, 0 * 4 + (evalE mi 5 (.mk ik iv iks)).1 % 4⟩]) := rfl
          simp only [Int.zero_mul, Int.zero_add] at hrun
          rw [hrun] at hn1 hn2
          iterate 4 (try (refine drv_sound (n := 12) (rs := _) Try.func61 mo rfl _ _ _ ?_; simp (maxSteps := 10000000) (maxDischargeDepth := 300) only [go_sem, hx, hlt, Pg.cells, Ex.cells, St1.cells, isI, I64, Ex.cellsL_length, Ex.cellsL_get, St1.cellsL_length, St1.cellsL_get, List.cons_append, List.nil_append, Int.reduceEq, Int.reduceBEq, Int.reduceBNe, renCs_I, renCs_hdr, renCs_b0, renCs_b1, renCs_tr, hh, hbl]))
          (repeat' with_reducible apply And.intro) <;> (try first | omega | (simp only [InK]; omega) | (intro k e; cases e; rfl) | (intro hguard; exact ⟨hguard, by simp only [InK]; omega⟩) | kernel_rfl)
          refine XK.plain (address 0 _ (by omega) hi1) ok105 ?_ (hbT ())
          iterate 2 (try (refine drv_sound (n := 12) (rs := _) Try.func61 mo rfl _ _ _ ?_; simp (maxSteps := 10000000) (maxDischargeDepth := 300) only [go_sem, hx, hlt, Pg.cells, Ex.cells, St1.cells, isI, I64, Ex.cellsL_length, Ex.cellsL_get, St1.cellsL_length, St1.cellsL_get, List.cons_append, List.nil_append, Int.reduceEq, Int.reduceBEq, Int.reduceBNe, renCs_I, renCs_hdr, renCs_b0, renCs_b1, renCs_tr]))
          refine XK.callG [0, 5632, 2, 3, 4, 5] (event2 p mi hmi 3 ((evalE mi 5 (.mk ik iv iks)).1 % 4) (ti ++ (evalE mi 5 (.mk vk vv vks)).2) (by omega)) ok104 (hhp6 (by simp [hOf, upd, renCs, renC, rk0]) (by simp [hOf, upd, renCs_tr, renCs, renC]) (by simp [hOf, upd, renCs_I]) (by simp [hOf, upd, renCs_hdr, rk0]) (by simp [hOf, upd, renCs_b0]) (by simp [hOf, upd, renCs_b1])) (hbT ()) (fun d h' ⟨_, e⟩ => by subst e; simp [stP']) ?_
          rintro _ _ ⟨rfl, rfl⟩ _
          unfold stP'
          iterate 3 (try (refine drv_sound (n := 12) (rs := _) Try.func61 mo rfl _ _ _ ?_; simp (maxSteps := 10000000) (maxDischargeDepth := 300) only [go_sem, hx, hlt, Pg.cells, Ex.cells, St1.cells, isI, I64, Ex.cellsL_length, Ex.cellsL_get, St1.cellsL_length, St1.cellsL_get, List.cons_append, List.nil_append, Int.reduceEq, Int.reduceBEq, Int.reduceBNe, renCs_I, renCs_hdr, renCs_b0, renCs_b1, renCs_tr, hh, hbl]))
          (repeat' with_reducible apply And.intro) <;> (try first | omega | (simp only [InK]; omega) | (intro k e; cases e; rfl) | (intro hguard; exact ⟨hguard, by simp only [InK]; omega⟩) | kernel_rfl)
          iterate 2 (try (refine drv_sound (n := 12) (rs := _) Try.func61 mo rfl _ _ _ ?_; simp (maxSteps := 10000000) (maxDischargeDepth := 300) only [go_sem, hx, hlt, Pg.cells, Ex.cells, St1.cells, isI, I64, Ex.cellsL_length, Ex.cellsL_get, St1.cellsL_length, St1.cellsL_get, List.cons_append, List.nil_append, Int.reduceEq, Int.reduceBEq, Int.reduceBNe, renCs_I, renCs_hdr, renCs_b0, renCs_b1, renCs_tr, hh, hbl]))
          (repeat' with_reducible apply And.intro) <;> (try first | omega | (simp only [InK]; omega) | (intro k e; cases e; rfl) | (intro hguard; exact ⟨hguard, by simp only [InK]; omega⟩) | kernel_rfl)
          have ag := again (i + 1)
          simp only [hn1, hn2] at ag
          exact ag _ [] _ hlt (by omega) (mqRunI rfl rfl rfl rfl rfl rfl rfl rfl rfl rfl (by decide) rfl (blk0_set0 _ _ _ hnap).symm (blk1_set0 _ _ _).symm (by rw [← List.append_assoc]) (by rw [← List.append_assoc]))
        · subst hv2
          have hnap : 1 < mi.arrays.length := by omega
          have hh : (hdr 4 5 p.arrays.length)[1]? = some (.msl 5 1 0 4) := by
            rw [← hmi.na]; unfold hdr; match mi.arrays.length, hnap with | n + 2, _ => rfl
          have h4 := (hmi.arr _ (arrAt_mem (m := mi) (v := 1) (by omega) (by omega)).2).1
          have hbl : (blk1 mi.arrays).length = 4 := by
            have e : mi.arrays[1]? = some (arrAt mi 1) := (arrAt_mem (m := mi) (v := 1) (by omega) (by omega)).1
            unfold blk1; rw [e, Option.getD_some, List.length_map, h4]
          have hx1 := Int.emod_nonneg (evalE mi 5 (.mk ik iv iks)).1 (show (4 : Int) ≠ 0 by decide)
          have hx2 := Int.emod_lt_of_pos (evalE mi 5 (.mk ik iv iks)).1 (show (0 : Int) < 4 by decide)
          have hrun : runS (d' + 1) mi (.mk 2 1 (.mk ik iv iks) (.mk vk vv vks) c b e) = (setA mi 1 ((evalE mi 5 (.mk ik iv iks)).1 % 4) (evalE mi 5 (.mk vk vv vks)).1, (evalE mi 5 (.mk vk vv vks)).2 ++ [⟨3, 1 * 4 + (evalE mi 5 (.mk ik iv iks)).1 % 4⟩]) := rfl
          rw [hrun] at hn1 hn2
          iterate 4 (try (refine drv_sound (n := 12) (rs := _) Try.func61 mo rfl _ _ _ ?_; simp (maxSteps := 10000000) (maxDischargeDepth := 300) only [go_sem, hx, hlt, Pg.cells, Ex.cells, St1.cells, isI, I64, Ex.cellsL_length, Ex.cellsL_get, St1.cellsL_length, St1.cellsL_get, List.cons_append, List.nil_append, Int.reduceEq, Int.reduceBEq, Int.reduceBNe, renCs_I, renCs_hdr, renCs_b0, renCs_b1, renCs_tr, hh, hbl]))
          (repeat' with_reducible apply And.intro) <;> (try first | omega | (simp only [InK]; omega) | (intro k e; cases e; rfl) | (intro hguard; exact ⟨hguard, by simp only [InK]; omega⟩) | kernel_rfl)
          refine XK.plain (address 1 _ (by omega) hi1) ok105 ?_ (hbT ())
          iterate 2 (try (refine drv_sound (n := 12) (rs := _) Try.func61 mo rfl _ _ _ ?_; simp (maxSteps := 10000000) (maxDischargeDepth := 300) only [go_sem, hx, hlt, Pg.cells, Ex.cells, St1.cells, isI, I64, Ex.cellsL_length, Ex.cellsL_get, St1.cellsL_length, St1.cellsL_get, List.cons_append, List.nil_append, Int.reduceEq, Int.reduceBEq, Int.reduceBNe, renCs_I, renCs_hdr, renCs_b0, renCs_b1, renCs_tr]))
          refine XK.callG [0, 5632, 2, 3, 4, 5] (event2 p mi hmi 3 (1 * 4 + (evalE mi 5 (.mk ik iv iks)).1 % 4) (ti ++ (evalE mi 5 (.mk vk vv vks)).2) (by omega)) ok104 (hhp6 (by simp [hOf, upd, renCs, renC, rk0]) (by simp [hOf, upd, renCs_tr, renCs, renC]) (by simp [hOf, upd, renCs_I]) (by simp [hOf, upd, renCs_hdr, rk0]) (by simp [hOf, upd, renCs_b0]) (by simp [hOf, upd, renCs_b1])) (hbT ()) (fun d h' ⟨_, e⟩ => by subst e; simp [stP']) ?_
          rintro _ _ ⟨rfl, rfl⟩ _
          unfold stP'
          iterate 3 (try (refine drv_sound (n := 12) (rs := _) Try.func61 mo rfl _ _ _ ?_; simp (maxSteps := 10000000) (maxDischargeDepth := 300) only [go_sem, hx, hlt, Pg.cells, Ex.cells, St1.cells, isI, I64, Ex.cellsL_length, Ex.cellsL_get, St1.cellsL_length, St1.cellsL_get, List.cons_append, List.nil_append, Int.reduceEq, Int.reduceBEq, Int.reduceBNe, renCs_I, renCs_hdr, renCs_b0, renCs_b1, renCs_tr, hh, hbl]))
          (repeat' with_reducible apply And.intro) <;> (try first | omega | (simp only [InK]; omega) | (intro k e; cases e; rfl) | (intro hguard; exact ⟨hguard, by simp only [InK]; omega⟩) | kernel_rfl)
          iterate 2 (try (refine drv_sound (n := 12) (rs := _) Try.func61 mo rfl _ _ _ ?_; simp (maxSteps := 10000000) (maxDischargeDepth := 300) only [go_sem, hx, hlt, Pg.cells, Ex.cells, St1.cells, isI, I64, Ex.cellsL_length, Ex.cellsL_get, St1.cellsL_length, St1.cellsL_get, List.cons_append, List.nil_append, Int.reduceEq, Int.reduceBEq, Int.reduceBNe, renCs_I, renCs_hdr, renCs_b0, renCs_b1, renCs_tr, hh, hbl]))
          (repeat' with_reducible apply And.intro) <;> (try first | omega | (simp only [InK]; omega) | (intro k e; cases e; rfl) | (intro hguard; exact ⟨hguard, by simp only [InK]; omega⟩) | kernel_rfl)
          have ag := again (i + 1)
          simp only [hn1, hn2] at ag
          exact ag _ [] _ hlt (by omega) (mqRunI rfl rfl rfl rfl rfl rfl rfl rfl rfl rfl (by decide) rfl (blk0_set1 _ _ _).symm (blk1_set1 _ _ _ hnap).symm (by rw [← List.append_assoc]) (by rw [← List.append_assoc]))
      · subst hk
        have hw1 : 20 ≤ wt (d' + 1) * tsize (d' + 1) (.mk 3 t (.mk ik iv iks) (.mk vk vv vks) c b e) := by
          have g1 := tsize_pos (d := d') (.mk 3 t (.mk ik iv iks) (.mk vk vv vks) c b e)
          have g2 : 20 ≤ wt (d' + 1) := by unfold wt; have : 0 < 3 ^ (d' + 1) := Nat.pow_pos (by decide); omega
          have g3 := Nat.mul_le_mul g2 g1
          omega
        have hs := right_shape hr
        have he1 := evalE_range hmi 5 (.mk vk vv vks) hs.1
        have he2 := evalE_len (m := mi) 5 (.mk vk vv vks) hs.1
        have htl2 := trC_len (ti ++ (evalE mi 5 (.mk vk vv vks)).2)
        have hll : (ti ++ (evalE mi 5 (.mk vk vv vks)).2).length = ti.length + (evalE mi 5 (.mk vk vv vks)).2.length := List.length_append
        have hw3 : wt (d' + 1) = 3 * wt d' := by unfold wt; rw [Nat.pow_succ]; omega
        have hw4 : 20 ≤ wt d' := by unfold wt; have : 0 < 3 ^ d' := Nat.pow_pos (by decide); omega
        have hbig : wt (d' + 1) * tsize (d' + 1) (.mk 3 t (.mk ik iv iks) (.mk vk vv vks) c b e) = 3 * wt d' + 3 * (wt d' * lsize d' b) + 3 * (wt d' * lsize d' e) := by
          rw [show tsize (d' + 1) (.mk 3 t (.mk ik iv iks) (.mk vk vv vks) c b e) = 1 + lsize d' b + lsize d' e from rfl, hw3, Nat.mul_add, Nat.mul_add, Nat.mul_assoc, Nat.mul_assoc, Nat.mul_assoc]; omega
        refine drv_sound (n := 12) (rs := _) Try.func61 mo rfl none _ _ ?_
        simp (maxSteps := 10000000) (maxDischargeDepth := 300) only [go_sem, hx, hlt, Pg.cells, Ex.cells, St1.cells, isI, I64, Ex.cellsL_length, Ex.cellsL_get, St1.cellsL_length, St1.cellsL_get, List.cons_append, List.nil_append, Int.reduceEq, Int.reduceBEq, Int.reduceBNe, renCs_I, renCs_hdr, renCs_b0, renCs_b1, renCs_tr]
        iterate 3 (try (refine drv_sound (n := 12) (rs := _) Try.func61 mo rfl _ _ _ ?_; simp (maxSteps := 10000000) (maxDischargeDepth := 300) only [go_sem, hx, hlt, Pg.cells, Ex.cells, St1.cells, isI, I64, Ex.cellsL_length, Ex.cellsL_get, St1.cellsL_length, St1.cellsL_get, List.cons_append, List.nil_append, Int.reduceEq, Int.reduceBEq, Int.reduceBNe, renCs_I, renCs_hdr, renCs_b0, renCs_b1, renCs_tr]))
        refine XK.callG [0, 20, 2, 3, 4, 5] (evalI2 p mi hmi (.mk vk vv vks) ti hr (by omega)) ok103 (hhp6 (by simp [hOf, upd, renCs, renC, rk0]) (by simp [hOf, upd, renCs_tr, renCs, renC]) (by simp [hOf, upd, renCs_I]) (by simp [hOf, upd, renCs_hdr, rk0]) (by simp [hOf, upd, renCs_b0]) (by simp [hOf, upd, renCs_b1])) (hbT ()) (fun d h' ⟨_, e⟩ => by subst e; simp [stP']) ?_
        rintro _ _ ⟨rfl, rfl⟩ _
        unfold stP'
        iterate 4 (try (refine drv_sound (n := 12) (rs := _) Try.func61 mo rfl _ _ _ ?_; simp (maxSteps := 10000000) (maxDischargeDepth := 300) only [go_sem, hx, hlt, Pg.cells, Ex.cells, St1.cells, isI, I64, Ex.cellsL_length, Ex.cellsL_get, St1.cellsL_length, St1.cellsL_get, List.cons_append, List.nil_append, Int.reduceEq, Int.reduceBEq, Int.reduceBNe, renCs_I, renCs_hdr, renCs_b0, renCs_b1, renCs_tr]))
        (repeat' with_reducible apply And.intro) <;> (try first | omega | (simp only [InK]; omega) | (intro k e; cases e; rfl) | (intro hguard; exact ⟨hguard, by simp only [InK]; omega⟩) | kernel_rfl)
        iterate 2 (try (refine drv_sound (n := 12) (rs := _) Try.func61 mo rfl _ _ _ ?_; simp (maxSteps := 10000000) (maxDischargeDepth := 300) only [go_sem, hx, hlt, Pg.cells, Ex.cells, St1.cells, isI, I64, Ex.cellsL_length, Ex.cellsL_get, St1.cellsL_length, St1.cellsL_get, List.cons_append, List.nil_append, Int.reduceEq, Int.reduceBEq, Int.reduceBNe, renCs_I, renCs_hdr, renCs_b0, renCs_b1, renCs_tr]))
        (repeat' with_reducible apply And.intro) <;> (try first | omega | (simp only [InK]; omega) | (intro k e; cases e; rfl) | (intro hguard; exact ⟨hguard, by simp only [InK]; omega⟩) | kernel_rfl)
        by_cases h0 : (evalE mi 5 (.mk vk vv vks)).1 = 0
        · have hb0 : ((evalE mi 5 (.mk vk vv vks)).1 != 0) = false := by simp [h0]
          have hrun : runS (d' + 1) mi (.mk 3 t (.mk ik iv iks) (.mk vk vv vks) c b e) = ((runL d' mi e).1, (evalE mi 5 (.mk vk vv vks)).2 ++ [⟨1, 0⟩] ++ (runL d' mi e).2) := by
            simp only [runS, show ¬ ((3 : Int) = 4) by decide, show ¬ ((3 : Int) = 1) by decide, show ¬ ((3 : Int) = 5) by decide, show ¬ ((3 : Int) = 2) by decide, if_false]
            rw [if_neg (fun h => h h0)]; rfl
          rw [hrun] at hn1 hn2
          have hlen5 : (ti ++ (evalE mi 5 (.mk vk vv vks)).2 ++ [(⟨1, 0⟩ : Ev)]).length = (ti ++ (evalE mi 5 (.mk vk vv vks)).2).length + 1 := by simp; omega
          have hLb : (ti ++ (evalE mi 5 (.mk vk vv vks)).2 ++ [(⟨1, 0⟩ : Ev)]).length + wt d' * lsize d' e ≤ 1073741824 := by
            rw [hlen5]; omega
          refine XK.plain (truth _) ok71 ?_ (hbT ())
          iterate 2 (try (refine drv_sound (n := 12) (rs := _) Try.func61 mo rfl _ _ _ ?_; simp (maxSteps := 10000000) (maxDischargeDepth := 300) only [go_sem, hx, hlt, Pg.cells, Ex.cells, St1.cells, isI, I64, Ex.cellsL_length, Ex.cellsL_get, St1.cellsL_length, St1.cellsL_get, List.cons_append, List.nil_append, Int.reduceEq, Int.reduceBEq, Int.reduceBNe, renCs_I, renCs_hdr, renCs_b0, renCs_b1, renCs_tr, hb0]))
          refine XK.callG [0, 4800, 2, 3, 4, 5] (event2 p mi hmi 1 0 (ti ++ (evalE mi 5 (.mk vk vv vks)).2) (by omega)) ok104 (hhp6 (by simp [hOf, upd, renCs, renC, rk0]) (by simp [hOf, upd, renCs_tr, renCs, renC]) (by simp [hOf, upd, renCs_I]) (by simp [hOf, upd, renCs_hdr, rk0]) (by simp [hOf, upd, renCs_b0]) (by simp [hOf, upd, renCs_b1])) (hbT ()) (fun d h' ⟨_, e⟩ => by subst e; simp [stP']) ?_
          rintro _ _ ⟨rfl, rfl⟩ _
          unfold stP'
          iterate 4 (try (refine drv_sound (n := 12) (rs := _) Try.func61 mo rfl _ _ _ ?_; simp (maxSteps := 10000000) (maxDischargeDepth := 300) only [go_sem, hx, hlt, Pg.cells, Ex.cells, St1.cells, isI, I64, Ex.cellsL_length, Ex.cellsL_get, St1.cellsL_length, St1.cellsL_get, List.cons_append, List.nil_append, Int.reduceEq, Int.reduceBEq, Int.reduceBNe, renCs_I, renCs_hdr, renCs_b0, renCs_b1, renCs_tr, h0]))

          refine XK.callG [0, 5824, 2, 3, 4, 5] (ih mi e (ti ++ (evalE mi 5 (.mk vk vv vks)).2 ++ [⟨1, 0⟩]) hmi he hLb) ok61 (hhp6 (by simp [hOf, upd, renCs, renC, rk0]) (by simp [hOf, upd, renCs_tr, renCs, renC]) (by simp [hOf, upd, renCs_I]) (by simp [hOf, upd, renCs_hdr, rk0]) (by simp [hOf, upd, renCs_b0]) (by simp [hOf, upd, renCs_b1])) (hbT ()) (fun d h' ⟨_, e⟩ => by subst e; simp [stP']) ?_
          rintro _ _ ⟨rfl, rfl⟩ _
          unfold stP'
          iterate 4 (try (refine drv_sound (n := 12) (rs := _) Try.func61 mo rfl _ _ _ ?_; simp (maxSteps := 10000000) (maxDischargeDepth := 300) only [go_sem, hx, hlt, Pg.cells, Ex.cells, St1.cells, isI, I64, Ex.cellsL_length, Ex.cellsL_get, St1.cellsL_length, St1.cellsL_get, List.cons_append, List.nil_append, Int.reduceEq, Int.reduceBEq, Int.reduceBNe, renCs_I, renCs_hdr, renCs_b0, renCs_b1, renCs_tr]))
          (repeat' with_reducible apply And.intro) <;> (try first | omega | (simp only [InK]; omega) | (intro k e; cases e; rfl) | (intro hguard; exact ⟨hguard, by simp only [InK]; omega⟩) | kernel_rfl)
          have ag := again (i + 1)
          simp only [hn1, hn2] at ag
          exact ag _ [] _ hlt (by omega) (mqRunI rfl rfl rfl rfl rfl rfl rfl rfl rfl rfl (by decide) rfl rfl rfl (by simp only [List.append_assoc]) (by simp only [List.append_assoc]))
        · have hb0 : ((evalE mi 5 (.mk vk vv vks)).1 != 0) = true := by simp [h0]
          have hrun : runS (d' + 1) mi (.mk 3 t (.mk ik iv iks) (.mk vk vv vks) c b e) = ((runL d' mi b).1, (evalE mi 5 (.mk vk vv vks)).2 ++ [⟨1, 1⟩] ++ (runL d' mi b).2) := by
            simp only [runS, show ¬ ((3 : Int) = 4) by decide, show ¬ ((3 : Int) = 1) by decide, show ¬ ((3 : Int) = 5) by decide, show ¬ ((3 : Int) = 2) by decide, if_false]
            rw [if_pos h0]; rfl
          rw [hrun] at hn1 hn2
          have hlen5 : (ti ++ (evalE mi 5 (.mk vk vv vks)).2 ++ [(⟨1, 1⟩ : Ev)]).length = (ti ++ (evalE mi 5 (.mk vk vv vks)).2).length + 1 := by simp; omega
          have hLb : (ti ++ (evalE mi 5 (.mk vk vv vks)).2 ++ [(⟨1, 1⟩ : Ev)]).length + wt d' * lsize d' b ≤ 1073741824 := by
            rw [hlen5]; omega
          refine XK.plain (truth _) ok71 ?_ (hbT ())
          iterate 2 (try (refine drv_sound (n := 12) (rs := _) Try.func61 mo rfl _ _ _ ?_; simp (maxSteps := 10000000) (maxDischargeDepth := 300) only [go_sem, hx, hlt, Pg.cells, Ex.cells, St1.cells, isI, I64, Ex.cellsL_length, Ex.cellsL_get, St1.cellsL_length, St1.cellsL_get, List.cons_append, List.nil_append, Int.reduceEq, Int.reduceBEq, Int.reduceBNe, renCs_I, renCs_hdr, renCs_b0, renCs_b1, renCs_tr, hb0]))
          refine XK.callG [0, 4800, 2, 3, 4, 5] (event2 p mi hmi 1 1 (ti ++ (evalE mi 5 (.mk vk vv vks)).2) (by omega)) ok104 (hhp6 (by simp [hOf, upd, renCs, renC, rk0]) (by simp [hOf, upd, renCs_tr, renCs, renC]) (by simp [hOf, upd, renCs_I]) (by simp [hOf, upd, renCs_hdr, rk0]) (by simp [hOf, upd, renCs_b0]) (by simp [hOf, upd, renCs_b1])) (hbT ()) (fun d h' ⟨_, e⟩ => by subst e; simp [stP']) ?_
          rintro _ _ ⟨rfl, rfl⟩ _
          unfold stP'
          iterate 4 (try (refine drv_sound (n := 12) (rs := _) Try.func61 mo rfl _ _ _ ?_; simp (maxSteps := 10000000) (maxDischargeDepth := 300) only [go_sem, hx, hlt, Pg.cells, Ex.cells, St1.cells, isI, I64, Ex.cellsL_length, Ex.cellsL_get, St1.cellsL_length, St1.cellsL_get, List.cons_append, List.nil_append, Int.reduceEq, Int.reduceBEq, Int.reduceBNe, renCs_I, renCs_hdr, renCs_b0, renCs_b1, renCs_tr, h0]))

          refine XK.callG [0, 5824, 2, 3, 4, 5] (ih mi b (ti ++ (evalE mi 5 (.mk vk vv vks)).2 ++ [⟨1, 1⟩]) hmi hb hLb) ok61 (hhp6 (by simp [hOf, upd, renCs, renC, rk0]) (by simp [hOf, upd, renCs_tr, renCs, renC]) (by simp [hOf, upd, renCs_I]) (by simp [hOf, upd, renCs_hdr, rk0]) (by simp [hOf, upd, renCs_b0]) (by simp [hOf, upd, renCs_b1])) (hbT ()) (fun d h' ⟨_, e⟩ => by subst e; simp [stP']) ?_
          rintro _ _ ⟨rfl, rfl⟩ _
          unfold stP'
          iterate 4 (try (refine drv_sound (n := 12) (rs := _) Try.func61 mo rfl _ _ _ ?_; simp (maxSteps := 10000000) (maxDischargeDepth := 300) only [go_sem, hx, hlt, Pg.cells, Ex.cells, St1.cells, isI, I64, Ex.cellsL_length, Ex.cellsL_get, St1.cellsL_length, St1.cellsL_get, List.cons_append, List.nil_append, Int.reduceEq, Int.reduceBEq, Int.reduceBNe, renCs_I, renCs_hdr, renCs_b0, renCs_b1, renCs_tr]))
          (repeat' with_reducible apply And.intro) <;> (try first | omega | (simp only [InK]; omega) | (intro k e; cases e; rfl) | (intro hguard; exact ⟨hguard, by simp only [InK]; omega⟩) | kernel_rfl)
          have ag := again (i + 1)
          simp only [hn1, hn2] at ag
          exact ag _ [] _ hlt (by omega) (mqRunI rfl rfl rfl rfl rfl rfl rfl rfl rfl rfl (by decide) rfl rfl rfl (by simp only [List.append_assoc]) (by simp only [List.append_assoc]))
      · subst hk
        have hw : wt (d' + 1) = 3 * wt d' := by unfold wt; rw [Nat.pow_succ]; omega
        have hts : tsize (d' + 1) (.mk 4 t (.mk ik iv iks) (.mk vk vv vks) c b e) = 1 + lsize d' b + lsize d' e := rfl
        have hbig : 3 * (wt d' * lsize d' b) ≤ wt (d' + 1) * tsize (d' + 1) (.mk 4 t (.mk ik iv iks) (.mk vk vv vks) c b e) := by
          rw [hts, hw, Nat.mul_add, Nat.mul_add, Nat.mul_assoc, Nat.mul_assoc, Nat.mul_assoc]; omega
        have hit := fun n => iterR_ok (p := p) (f := fun m => foldR (runS d') m b) (w := wt d' * lsize d' b) (fun m hm => runL_ok hm hb) n mi hmi
        have hrun : runS (d' + 1) mi (.mk 4 t (.mk ik iv iks) (.mk vk vv vks) c b e) = iterR (fun m => foldR (runS d') m b) c.toNat mi := by simp only [runS, if_true]
        rw [hrun] at hn1 hn2
        refine drv_sound (n := 12) (rs := _) Try.func61 mo rfl none _ _ ?_
        simp (maxSteps := 10000000) (maxDischargeDepth := 300) only [go_sem, hx, hlt, Pg.cells, Ex.cells, St1.cells, isI, I64, Ex.cellsL_length, Ex.cellsL_get, St1.cellsL_length, St1.cellsL_get, List.cons_append, List.nil_append, Int.reduceEq, Int.reduceBEq, Int.reduceBNe, renCs_I, renCs_hdr, renCs_b0, renCs_b1, renCs_tr]
        iterate 4 (try (refine drv_sound (n := 12) (rs := _) Try.func61 mo rfl _ _ _ ?_; simp (maxSteps := 10000000) (maxDischargeDepth := 300) only [go_sem, hx, hlt, Pg.cells, Ex.cells, St1.cells, isI, I64, Ex.cellsL_length, Ex.cellsL_get, St1.cellsL_length, St1.cellsL_get, List.cons_append, List.nil_append, Int.reduceEq, Int.reduceBEq, Int.reduceBNe, renCs_I, renCs_hdr, renCs_b0, renCs_b1, renCs_tr]))
        refine Go.loopQ (fun n : Nat => [(0, .c (.ptr 0 0)), (8, .c (.isl 11 (St1.cellsL l))), (9, DI .i64 l.length), (10, DI .i64 i), (5, .c (.ptr 22 0)), (18, DI .i64 c), (19, DI .i64 n)])
          (fun n => [(0, some [.msl 2 1 0 p.vars.length, .msl 3 1 0 p.arrays.length, .msl 20 2 0 (ti ++ (iterR (fun m => foldR (runS d') m b) n mi).2).length]), (1, none), (2, some ((iterR (fun m => foldR (runS d') m b) n mi).1.vals.map I64)), (3, some (hdr 4 5 p.arrays.length)), (4, some (blk0 (iterR (fun m => foldR (runS d') m b) n mi).1.arrays)), (5, some (blk1 (iterR (fun m => foldR (runS d') m b) n mi).1.arrays)), (20, some (trC (ti ++ (iterR (fun m => foldR (runS d') m b) n mi).2))), (22, some (St1.cells (.mk 4 t (.mk ik iv iks) (.mk vk vv vks) c b e)))])
          8192 (fun n => n ≤ c.toNat) (fun n => c.toNat - n) ?_ 0 _ [] _ (Nat.zero_le _) (mqRepI (cells_kf _ _ _ _ _ _ _ _ _ _ _) rfl rfl rfl rfl rfl rfl rfl rfl rfl rfl rfl rfl rfl rfl (by decide) rfl rfl rfl (by simp [iterR]) (by simp [iterR]))
        intro n hn again2
        refine drv_sound (n := 12) (rs := _) Try.func61 mo rfl none _ _ ?_
        rcases Nat.lt_or_ge n c.toNat with hlt2 | hge2
        · have hnc : (n : Int) < c := by omega
          simp (maxSteps := 10000000) (maxDischargeDepth := 300) only [go_sem, hx, hlt, Pg.cells, Ex.cells, St1.cells, isI, I64, Ex.cellsL_length, Ex.cellsL_get, St1.cellsL_length, St1.cellsL_get, List.cons_append, List.nil_append, Int.reduceEq, Int.reduceBEq, Int.reduceBNe, renCs_I, renCs_hdr, renCs_b0, renCs_b1, renCs_tr, hnc]
          iterate 3 (try (refine drv_sound (n := 12) (rs := _) Try.func61 mo rfl _ _ _ ?_; simp (maxSteps := 10000000) (maxDischargeDepth := 300) only [go_sem, hx, hlt, Pg.cells, Ex.cells, St1.cells, isI, I64, Ex.cellsL_length, Ex.cellsL_get, St1.cellsL_length, St1.cellsL_get, List.cons_append, List.nil_append, Int.reduceEq, Int.reduceBEq, Int.reduceBNe, renCs_I, renCs_hdr, renCs_b0, renCs_b1, renCs_tr, hnc]))
          have hX : (ti ++ (iterR (fun m => foldR (runS d') m b) n mi).2).length + wt d' * lsize d' b ≤ 1073741824 := by
            have g1 := (hit n).2
            have hc3' : n + 1 ≤ 3 := by omega
            have g2 := Nat.mul_le_mul_right (wt d' * lsize d' b) hc3'
            rw [Nat.add_mul] at g2
            rw [List.length_append]
            omega
          refine XK.callG [0, 20, 2, 3, 4, 5] (ih (iterR (fun m => foldR (runS d') m b) n mi).1 b (ti ++ (iterR (fun m => foldR (runS d') m b) n mi).2) (hit n).1 hb hX) ok61 (hhp6 (by simp [hOf, upd, renCs, renC, rk0]) (by simp [hOf, upd, renCs_tr, renCs, renC]) (by simp [hOf, upd, renCs_I]) (by simp [hOf, upd, renCs_hdr, rk0]) (by simp [hOf, upd, renCs_b0]) (by simp [hOf, upd, renCs_b1])) (hbT ()) (fun d h' ⟨_, e⟩ => by subst e; simp [stP']) ?_
          rintro _ _ ⟨rfl, rfl⟩ _
          unfold stP'
          iterate 3 (try (refine drv_sound (n := 12) (rs := _) Try.func61 mo rfl _ _ _ ?_; simp (maxSteps := 10000000) (maxDischargeDepth := 300) only [go_sem, hx, hlt, Pg.cells, Ex.cells, St1.cells, isI, I64, Ex.cellsL_length, Ex.cellsL_get, St1.cellsL_length, St1.cellsL_get, List.cons_append, List.nil_append, Int.reduceEq, Int.reduceBEq, Int.reduceBNe, renCs_I, renCs_hdr, renCs_b0, renCs_b1, renCs_tr]))
          (repeat' with_reducible apply And.intro) <;> (try first | omega | (simp only [InK]; omega) | (intro k e; cases e; rfl) | (intro hguard; exact ⟨hguard, by simp only [InK]; omega⟩) | kernel_rfl)
          exact again2 (n + 1) _ [] _ hlt2 (by omega) (mqRepI (cells_kf _ _ _ _ _ _ _ _ _ _ _) rfl rfl rfl rfl rfl rfl rfl rfl rfl rfl rfl rfl rfl rfl (by decide) rfl rfl rfl (by simp only [iterR, runL, List.append_assoc]) (by simp only [iterR, runL, List.append_assoc]))
        · have hnc : ¬ (n : Int) < c := by omega
          simp (maxSteps := 10000000) (maxDischargeDepth := 300) only [go_sem, hx, hlt, Pg.cells, Ex.cells, St1.cells, isI, I64, Ex.cellsL_length, Ex.cellsL_get, St1.cellsL_length, St1.cellsL_get, List.cons_append, List.nil_append, Int.reduceEq, Int.reduceBEq, Int.reduceBNe, renCs_I, renCs_hdr, renCs_b0, renCs_b1, renCs_tr, hnc]
          iterate 3 (try (refine drv_sound (n := 12) (rs := _) Try.func61 mo rfl _ _ _ ?_; simp (maxSteps := 10000000) (maxDischargeDepth := 300) only [go_sem, hx, hlt, Pg.cells, Ex.cells, St1.cells, isI, I64, Ex.cellsL_length, Ex.cellsL_get, St1.cellsL_length, St1.cellsL_get, List.cons_append, List.nil_append, Int.reduceEq, Int.reduceBEq, Int.reduceBNe, renCs_I, renCs_hdr, renCs_b0, renCs_b1, renCs_tr, hnc]))
          (repeat' with_reducible apply And.intro) <;> (try first | omega | (simp only [InK]; omega) | (intro k e; cases e; rfl) | (intro hguard; exact ⟨hguard, by simp only [InK]; omega⟩) | kernel_rfl)
          obtain rfl : n = c.toNat := by omega
          have ag := again (i + 1)
          simp only [hn1, hn2] at ag
          exact ag _ [] _ hlt (by omega) (mqRunI rfl rfl rfl rfl rfl rfl rfl rfl rfl rfl (by decide) rfl rfl rfl rfl rfl)
    · have hn : ¬ i < l.length := by omega
      obtain rfl : i = l.length := by omega
      refine drv_sound (n := 12) (rs := _) Try.func61 mo rfl none _ _ ?_
      simp (maxSteps := 10000000) (maxDischargeDepth := 300) only [go_sem, hn, Pg.cells, Ex.cells, St1.cells, isI, I64, Ex.cellsL_length, Ex.cellsL_get, St1.cellsL_length, St1.cellsL_get, List.take_length]
      iterate 2 (try (refine drv_sound (n := 12) (rs := _) Try.func61 mo rfl _ _ _ ?_; simp (maxSteps := 10000000) (maxDischargeDepth := 300) only [go_sem, hn, Pg.cells, Ex.cells, St1.cells, isI, I64, Ex.cellsL_length, Ex.cellsL_get, St1.cellsL_length, St1.cellsL_get, List.take_length]))
      exact ret _ _ _ _ _ rfl rfl rfl rfl rfl rfl rfl (by omega) rfl rfl
  · simp (maxSteps := 10000000) (maxDischargeDepth := 300) only [go_sem, TmOK, DM, DMs, CM, CMs, forall_eq, exists_eq_left, Mq, HpOK, LowOK, Pg.cells, Ex.cells, St1.cells, isI, I64, Ex.cellsL_length, Ex.cellsL_get, St1.cellsL_length, St1.cellsL_get, CMs_I, CMs_hdr, CMs_b0, CMs_b1, CMs_tr]
    simp [runL, foldR, CMs_tr, CMs_I, CMs_b0, CMs_b1]
end Go.Proofs.Ytclgjiffpijgmaa.CtR

namespace Go.Proofs.Ytclgjiffpijgmaa.CtR
open Go Go.CT CtF

theorem runSpec (p : Pg) : ∀ (d : Nat) (m : Mm) (l : List St1) (tr : List Ev), MemFits p m → (∀ s ∈ l, stmtOK p d s = true) → tr.length + wt d * lsize d l ≤ 1073741824 → DC Try.prog 65 [.agg [.msl 0 1 0 p.vars.length, .msl 1 1 0 p.arrays.length], .c (.isl 11 (St1.cellsL l)), .c (.msl 4 2 0 tr.length)]
      [some (m.vals.map I64), some (hdr 2 3 p.arrays.length), some (blk0 m.arrays), some (blk1 m.arrays), some (trC tr)] (runR p d m l tr)
  | 0, m, l, tr, hm, hok, h => runOf p 0 (fun d' e => by omega) m l tr hm hok h
  | d + 1, m, l, tr, hm, hok, h => runOf p (d + 1) (fun d' e => by
      obtain rfl : d = d' := by omega
      exact runSpec p d) m l tr hm hok h
theorem runImpl (p : Pg) : ∀ (d : Nat) (m : Mm) (l : List St1) (tr : List Ev), MemFits p m → (∀ s ∈ l, stmtOK p d s = true) → tr.length + wt d * lsize d l ≤ 1073741824 → DC Try.prog 61 [.c (.ptr 0 0), .c (.isl 11 (St1.cellsL l))]
      [some [.msl 2 1 0 p.vars.length, .msl 3 1 0 p.arrays.length, .msl 1 2 0 tr.length], some (trC tr), some (m.vals.map I64), some (hdr 4 5 p.arrays.length), some (blk0 m.arrays), some (blk1 m.arrays)] (fun r h => r = .tup [] ∧ h = stP' p (runL d m l).1 (tr ++ (runL d m l).2))
  | 0, m, l, tr, hm, hok, h => runIOf p 0 (fun d' e => by omega) m l tr hm hok h
  | d + 1, m, l, tr, hm, hok, h => runIOf p (d + 1) (fun d' e => by
      obtain rfl : d = d' := by omega
      exact runImpl p d) m l tr hm hok h

theorem memFits_of {p : Pg} {m : Mm} (h : (progOK p && memOK p.vars p.arrays m) = true) : MemFits p m := by
  simp only [progOK, memOK, headsOK, vals01, arrOK, Bool.and_eq_true, decide_eq_true_eq, List.all_eq_true] at h
  obtain ⟨⟨⟨⟨⟨⟨⟨h1, h2⟩, h3⟩, _⟩, _⟩, _⟩, _⟩, ⟨⟨g1, g2⟩, g3⟩, g4⟩ := h
  exact ⟨by omega, by omega, by omega, by omega, g3, fun a ha => ⟨by have := (g4 a ha).1; omega, (g4 a ha).2⟩⟩
theorem body_of {p : Pg} (h : progOK p = true) : (∀ s ∈ p.body, stmtOK p 5 s = true) ∧ lsize 5 p.body ≤ 60 := by
  simp only [progOK, Bool.and_eq_true, decide_eq_true_eq, List.all_eq_true] at h
  exact ⟨h.1.2, by omega⟩
theorem wt5 : wt 5 = 4860 := by decide

/-- What a run of a program answers. -/
def runP (p : Pg) (m : Mm) : Mm × List Ev × Bool := if progOK p && memOK p.vars p.arrays m then ((runL 5 m p.body).1, (runL 5 m p.body).2, true) else (⟨[], []⟩, [], false)
def trD (tr : List Ev) : C := .isl 2 (tr.map Ev.cells)

/-- A result that is taken for another one, its blocks too. -/
theorem RetOb.step {m : Nat} {R : D → List (Option (List C)) → Prop} {d : D} {hp : Hp} (r : Nat → Option Nat) (fz : List Nat) (d' : D) (hl : List (Nat × Option (List C)))
    (hM : DM (hOf hl) r hp fz d' d ∧ HpOK (hOf hl) r hp fz hl ∧ LowOK r (hOf hl) m ∧ ((hl.filterMap fun p => p.2.map fun _ => p.1).filterMap r).Nodup) (hn : RetOb m R d' (hOf hl)) : RetOb m R d hp := fun I w s v H hv => by
  have h : Mq m r fz [] hl ⟨fun _ => none, hp, 0⟩ := ⟨trivial, hM.2.1, hM.2.2.1, hM.2.2.2⟩
  obtain ⟨H', E'⟩ := h.subH.sim H
  obtain ⟨I', s', d2, h2, g1, g2, g3, g4, g5⟩ := hn _ w _ v H' (DM.rd H d' d hM.1 hv)
  exact ⟨I', s', d2, h2, g1, g2, g3, E'.trans g4, g5⟩

theorem memRows (m : Mm) : Mm.cells m = [isI m.vals, .isl 1 (m.arrays.map fun a => [isI a])] := rfl

set_option maxHeartbeats 4000000 in
/-- A run's memory and trace, handed back as plain data. -/
theorem RetOb.run {R : D → List (Option (List C)) → Prop} {p : Pg} {m : Mm} {tr : List Ev} {ok : Bool} {hp : Hp} {k0 k1 k2 k3 kt n : Nat} {cs : List C} (hm : MemFits p m) (hR : R (.tup [.agg m.cells, .c (trD tr), DB ok]) [])
    (h0 : hp k0 = some (some (m.vals.map I64))) (h1 : hp k1 = some (some (hdr k2 k3 p.arrays.length))) (h2 : hp k2 = some (some (blk0 m.arrays))) (h3 : hp k3 = some (some (blk1 m.arrays))) (ht : hp kt = some (some cs)) (hcs : cs = trC tr) (hn : n = tr.length)
    (hne : k0 ≠ k1 ∧ k0 ≠ k2 ∧ k0 ≠ k3 ∧ k1 ≠ k2 ∧ k1 ≠ k3 ∧ k2 ≠ k3 ∧ kt ≠ k0 ∧ kt ≠ k1 ∧ kt ≠ k2 ∧ kt ≠ k3) : RetOb 0 R (.tup [.agg [.msl k0 1 0 p.vars.length, .msl k1 1 0 p.arrays.length], .c (.msl kt 2 0 n), DB ok]) hp := by
  subst hcs hn
  obtain ⟨va, arr⟩ := m
  have hnv : va.length = p.vars.length := hm.nv
  have hna : arr.length = p.arrays.length := hm.na
  have hna2 := hm.na2
  have h4 : ∀ a ∈ arr, a.length = 4 := fun a ha => (hm.arr a ha).1
  obtain ⟨n01, n02, n03, n12, n13, n23, nt0, nt1, nt2, nt3⟩ := hne
  rw [← hnv, ← hna]
  rw [← hna] at h1 hna2
  refine RetOb.step (fun j => if j = 0 then some k0 else if j = 1 then some k1 else if j = 2 then some kt else none) [k2, k3] (.tup [.agg [.msl 0 1 0 va.length, .msl 1 1 0 arr.length], .c (.msl 2 2 0 tr.length), DB ok]) [(0, some (va.map I64)), (1, some (arr.map isI)), (2, some (trC tr))] ?_ ?_
  · have e3 : ∀ a : List Int, (a.map fun n => [C.v (.int .i64 n)]).flatten = a.map I64 := fun a => flat1 _ a
    match arr, hna2, h4, h1, h2, h3 with
    | [], _, h4, h1, h2, h3 => simp [DM, DMs, CM, CMs, HpOK, LowOK, hOf, upd, h0, ht, CMs_I, CMs_tr, h1, hdr, n01, n02, n03, n12, n13, n23, nt0, nt1, nt2, nt3, Ne.symm n01, Ne.symm nt0, Ne.symm nt1, Ne.symm n23]
    | [a], _, h4, h1, h2, h3 =>
      have ha := h4 a (by simp)
      simp [DM, DMs, CM, CMs, HpOK, LowOK, hOf, upd, h0, ht, CMs_I, CMs_tr, h1, h2, hdr, n01, n02, n03, n12, n13, n23, nt0, nt1, nt2, nt3, Ne.symm n01, Ne.symm nt0, Ne.symm nt1, Ne.symm n23, e3, isI, ha, blk0, kf]
    | [a, b], _, h4, h1, h2, h3 =>
      have ha := h4 a (by simp)
      have hb := h4 b (by simp)
      simp [DM, DMs, CM, CMs, HpOK, LowOK, hOf, upd, h0, ht, CMs_I, CMs_tr, h1, h2, h3, hdr, n01, n02, n03, n12, n13, n23, nt0, nt1, nt2, nt3, Ne.symm n01, Ne.symm nt0, Ne.symm nt1, Ne.symm n23, e3, isI, ha, hb, blk0, blk1, kf]
  · refine RetOb.ofQ (fun _ => none) [0, 1, 2] _ [] ⟨?_, trivial, trivial, by simp [enumL]⟩ hR (Nat.zero_le _)
    have e4 : ∀ l : List (List Int), (l.map fun a => [C.isl 1 (a.map fun n => [I64 n])]).flatten = l.map isI := fun l => flat1 _ l
    have e5 : (tr.map Ev.cells).flatten = trC tr := rfl
    simp [DM, DMs, CM, CMs, hOf, upd, Mm.cells, isI, trD, flat_I, kf, e5]
    exact ⟨(flat1 isI arr).symm, fun a _ => rfl, fun a _ c hc => by
      simp only [Ev.cells, List.mem_cons, List.not_mem_nil, or_false] at hc
      rcases hc with rfl | rfl <;> rfl⟩

theorem runP_false {p : Pg} {m : Mm} (h : (progOK p && memOK p.vars p.arrays m) = false) : runP p m = (⟨[], []⟩, [], false) := by unfold runP; rw [h]; rfl
theorem runP_true {p : Pg} {m : Mm} (h : (progOK p && memOK p.vars p.arrays m) = true) : runP p m = ((runL 5 m p.body).1, (runL 5 m p.body).2, true) := by unfold runP; rw [h]; rfl
/-- A run that does not take place. -/
theorem RetOb.noRun {R : D → List (Option (List C)) → Prop} {hp : Hp} {c : C} (hR : R (.tup [.agg (Mm.cells ⟨[], []⟩), .c (trD []), DB false]) []) (hc : c = .v (.slice none 0 0) ∨ ∃ k, c = .msl k 2 0 0 ∧ hp k = some (some [])) : RetOb 0 R (.tup [.agg [.v (.slice none 0 0), .v (.slice none 0 0)], .c c, DB false]) hp := by
  rcases hc with rfl | ⟨k, rfl, hk⟩
  · refine RetOb.ofQ (fun _ => none) [] _ [] ⟨?_, trivial, trivial, by simp [enumL]⟩ hR (Nat.zero_le _)
    simp [DM, DMs, CM, CMs, Mm.cells, isI, trD]
  · refine RetOb.ofQ (fun _ => none) [k] _ [] ⟨?_, trivial, trivial, by simp [enumL]⟩ hR (Nat.zero_le _)
    simp [DM, DMs, CM, CMs, Mm.cells, isI, trD, hk]

set_option maxHeartbeats 4000000 in
set_option maxRecDepth 10000 in
theorem runProgS (p : Pg) (m : Mm) (hl : p.vars.length ≤ mx) (hl2 : p.arrays.length ≤ mx) (hb : lsize 5 p.body ≤ 1099511627776) : DC Try.prog 29 [.agg p.cells, .agg m.cells] [] (fun r h => r = .tup [.agg (runP p m).1.cells, .c (trD (runP p m).2.1), DB (runP p m).2.2] ∧ h = []) := by
  have hv := memoryValidS p m hl hl2 hb
  generalize hR : (fun (r : D) (h : List (Option (List C))) => r = .tup [.agg (runP p m).1.cells, .c (trD (runP p m).2.1), DB (runP p m).2.2] ∧ h = []) = R
  have hmf := @memFits_of p m
  have hbo := @body_of p
  cases hq : (progOK p && memOK p.vars p.arrays m) with
  | false =>
    rw [hq] at hv
    have hr := runP_false hq
    obtain ⟨vs, ar, bd⟩ := p
    obtain ⟨va, arr⟩ := m
    refine dc_of_go Try.func29 rfl (by simp) ?_
    refine drv_sound (n := 12) (rs := _) Try.func29 mo rfl none _ _ ?_
    simp (maxSteps := 10000000) (maxDischargeDepth := 300) only [go_sem, Pg.cells, Ex.cells, St1.cells, isI, I64, Ex.cellsL_length, Ex.cellsL_get, St1.cellsL_length, St1.cellsL_get, Mm.cells]
    iterate 2 (try (refine drv_sound (n := 12) (rs := _) Try.func29 mo rfl _ _ _ ?_; simp (maxSteps := 10000000) (maxDischargeDepth := 300) only [go_sem, Pg.cells, Ex.cells, St1.cells, isI, I64, Ex.cellsL_length, Ex.cellsL_get, St1.cellsL_length, St1.cellsL_get, Mm.cells]))
    refine XK.plain hv ok64 ?_ (hbT ())
    iterate 3 (try (refine drv_sound (n := 12) (rs := _) Try.func29 mo rfl _ _ _ ?_; simp (maxSteps := 10000000) (maxDischargeDepth := 300) only [go_sem, Pg.cells, Ex.cells, St1.cells, isI, I64, Ex.cellsL_length, Ex.cellsL_get, St1.cellsL_length, St1.cellsL_get]))
    refine RetOb.noRun ?_ (.inr ⟨_, rfl, rfl⟩)
    subst hR
    rw [hr]
    exact ⟨rfl, rfl⟩
  | true =>
    rw [hq] at hv
    have hr := runP_true hq
    have hm := hmf hq
    have hpo : progOK p = true := by simp only [Bool.and_eq_true] at hq; exact hq.1
    have hbd := hbo hpo
    have hcp := l3Copy m (by have := hm.nv; have := hm.nv12; omega) (by have := hm.na; have := hm.na2; omega) (fun a ha => (hm.arr a ha).1)
    unfold memB at hcp
    rw [hm.nv, hm.na] at hcp
    have hrn := DC.nilLast (pre := [.agg [.msl 0 1 0 p.vars.length, .msl 1 1 0 p.arrays.length], .c (.isl 11 (St1.cellsL p.body))]) (sz := 2) (h := [some (m.vals.map I64), some (hdr 2 3 p.arrays.length), some (blk0 m.arrays), some (blk1 m.arrays)]) (runSpec p 5 m p.body [] hm hbd.1 (by rw [wt5]; simp only [List.length_nil]; omega))
    have hfin := (runL_ok hm hbd.1).1
    obtain ⟨vs, ar, bd⟩ := p
    obtain ⟨va, arr⟩ := m
    refine dc_of_go Try.func29 rfl (by simp) ?_
    refine drv_sound (n := 12) (rs := _) Try.func29 mo rfl none _ _ ?_
    simp (maxSteps := 10000000) (maxDischargeDepth := 300) only [go_sem, Pg.cells, Ex.cells, St1.cells, isI, I64, Ex.cellsL_length, Ex.cellsL_get, St1.cellsL_length, St1.cellsL_get, Mm.cells]
    iterate 2 (try (refine drv_sound (n := 12) (rs := _) Try.func29 mo rfl _ _ _ ?_; simp (maxSteps := 10000000) (maxDischargeDepth := 300) only [go_sem, Pg.cells, Ex.cells, St1.cells, isI, I64, Ex.cellsL_length, Ex.cellsL_get, St1.cellsL_length, St1.cellsL_get, Mm.cells]))
    refine XK.plain hv ok64 ?_ (hbT ())
    iterate 3 (try (refine drv_sound (n := 12) (rs := _) Try.func29 mo rfl _ _ _ ?_; simp (maxSteps := 10000000) (maxDischargeDepth := 300) only [go_sem, Pg.cells, Ex.cells, St1.cells, isI, I64, Ex.cellsL_length, Ex.cellsL_get, St1.cellsL_length, St1.cellsL_get]))
    refine XK.callG [] hcp ok57 (fun i' x h => by simp at h) (hbT ()) (fun d h' ⟨_, e⟩ => by subst e; simp) ?_
    rintro _ _ ⟨rfl, rfl⟩ _
    iterate 3 (try (refine drv_sound (n := 12) (rs := _) Try.func29 mo rfl _ _ _ ?_; simp (maxSteps := 10000000) (maxDischargeDepth := 300) only [go_sem, Pg.cells, Ex.cells, St1.cells, isI, I64, Ex.cellsL_length, Ex.cellsL_get, St1.cellsL_length, St1.cellsL_get, renCs_I, renCs_hdr, renCs_b0, renCs_b1, renCs_tr]))
    refine XK.callG [640, 641, 642, 643] hrn ok65 (hhp4 (by simp [hpL, upd, renCs_I]) (by simp [hpL, upd, renCs_hdr, rk0]) (by simp [hpL, upd, renCs_b0]) (by simp [hpL, upd, renCs_b1])) (hbT ()) (fun d h' ⟨_, e⟩ => by subst e; simp) ?_
    rintro _ _ ⟨rfl, rfl⟩ _
    iterate 3 (try (refine drv_sound (n := 12) (rs := _) Try.func29 mo rfl _ _ _ ?_; simp (maxSteps := 10000000) (maxDischargeDepth := 300) only [go_sem, Pg.cells, Ex.cells, St1.cells, isI, I64, Ex.cellsL_length, Ex.cellsL_get, St1.cellsL_length, St1.cellsL_get, renCs_I, renCs_hdr, renCs_b0, renCs_b1, renCs_tr]))
    refine RetOb.run hfin ?_ rfl rfl rfl rfl rfl rfl rfl (by decide)
    subst hR
    rw [hr]
    exact ⟨rfl, rfl⟩

set_option maxHeartbeats 4000000 in
set_option maxRecDepth 10000 in
theorem runProgI (p : Pg) (m : Mm) (hl : p.vars.length ≤ mx) (hl2 : p.arrays.length ≤ mx) : DC Try.prog 22 [.agg p.cells, .agg m.cells] [] (fun r h => r = .tup [.agg (runP p m).1.cells, .c (trD (runP p m).2.1), DB (runP p m).2.2] ∧ h = []) := by
  have hv := memoryValidI p m hl hl2
  generalize hR : (fun (r : D) (h : List (Option (List C))) => r = .tup [.agg (runP p m).1.cells, .c (trD (runP p m).2.1), DB (runP p m).2.2] ∧ h = []) = R
  have hmf := @memFits_of p m
  have hbo := @body_of p
  cases hq : (progOK p && memOK p.vars p.arrays m) with
  | false =>
    rw [hq] at hv
    have hr := runP_false hq
    obtain ⟨vs, ar, bd⟩ := p
    obtain ⟨va, arr⟩ := m
    refine dc_of_go Try.func22 rfl (by simp) ?_
    refine drv_sound (n := 12) (rs := _) Try.func22 mo rfl none _ _ ?_
    simp (maxSteps := 10000000) (maxDischargeDepth := 300) only [go_sem, Pg.cells, Ex.cells, St1.cells, isI, I64, Ex.cellsL_length, Ex.cellsL_get, St1.cellsL_length, St1.cellsL_get, Mm.cells]
    iterate 2 (try (refine drv_sound (n := 12) (rs := _) Try.func22 mo rfl _ _ _ ?_; simp (maxSteps := 10000000) (maxDischargeDepth := 300) only [go_sem, Pg.cells, Ex.cells, St1.cells, isI, I64, Ex.cellsL_length, Ex.cellsL_get, St1.cellsL_length, St1.cellsL_get, Mm.cells]))
    refine XK.plain hv ok31 ?_ (hbT ())
    iterate 3 (try (refine drv_sound (n := 12) (rs := _) Try.func22 mo rfl _ _ _ ?_; simp (maxSteps := 10000000) (maxDischargeDepth := 300) only [go_sem, Pg.cells, Ex.cells, St1.cells, isI, I64, Ex.cellsL_length, Ex.cellsL_get, St1.cellsL_length, St1.cellsL_get]))
    refine RetOb.noRun ?_ (.inl rfl)
    subst hR
    rw [hr]
    exact ⟨rfl, rfl⟩
  | true =>
    rw [hq] at hv
    have hr := runP_true hq
    have hm := hmf hq
    have hpo : progOK p = true := by simp only [Bool.and_eq_true] at hq; exact hq.1
    have hbd := hbo hpo
    have hcp := own m (by have := hm.nv; have := hm.nv12; omega) (by have := hm.na; have := hm.na2; omega) (fun a ha => (hm.arr a ha).1)
    unfold memB at hcp
    rw [hm.nv, hm.na] at hcp
    have hrn := runImpl p 5 m p.body [] hm hbd.1 (by rw [wt5]; simp only [List.length_nil]; omega)
    have hfin := (runL_ok hm hbd.1).1
    obtain ⟨vs, ar, bd⟩ := p
    obtain ⟨va, arr⟩ := m
    refine dc_of_go Try.func22 rfl (by simp) ?_
    refine drv_sound (n := 12) (rs := _) Try.func22 mo rfl none _ _ ?_
    simp (maxSteps := 10000000) (maxDischargeDepth := 300) only [go_sem, Pg.cells, Ex.cells, St1.cells, isI, I64, Ex.cellsL_length, Ex.cellsL_get, St1.cellsL_length, St1.cellsL_get, Mm.cells]
    iterate 2 (try (refine drv_sound (n := 12) (rs := _) Try.func22 mo rfl _ _ _ ?_; simp (maxSteps := 10000000) (maxDischargeDepth := 300) only [go_sem, Pg.cells, Ex.cells, St1.cells, isI, I64, Ex.cellsL_length, Ex.cellsL_get, St1.cellsL_length, St1.cellsL_get, Mm.cells]))
    refine XK.plain hv ok31 ?_ (hbT ())
    iterate 3 (try (refine drv_sound (n := 12) (rs := _) Try.func22 mo rfl _ _ _ ?_; simp (maxSteps := 10000000) (maxDischargeDepth := 300) only [go_sem, Pg.cells, Ex.cells, St1.cells, isI, I64, Ex.cellsL_length, Ex.cellsL_get, St1.cellsL_length, St1.cellsL_get]))
    refine XK.callG [] hcp ok60 (fun i' x h => by simp at h) (hbT ()) (fun d h' ⟨_, e⟩ => by subst e; simp) ?_
    rintro _ _ ⟨rfl, rfl⟩ _
    iterate 3 (try (refine drv_sound (n := 12) (rs := _) Try.func22 mo rfl _ _ _ ?_; simp (maxSteps := 10000000) (maxDischargeDepth := 300) only [go_sem, Pg.cells, Ex.cells, St1.cells, isI, I64, Ex.cellsL_length, Ex.cellsL_get, St1.cellsL_length, St1.cellsL_get, renCs_I, renCs_hdr, renCs_b0, renCs_b1, renCs_tr]))
    refine XK.subQ (r := fun j => if j = 0 then some 768 else if j = 1 then none else if j = 2 then some 640 else if j = 3 then some 641 else if j = 4 then some 642 else if j = 5 then some 643 else some 128) (fz := [])
      (tl := [(4, .c (.ptr 6 0)), (7, .c (.ptr 0 0)), (17, .c (.ptr 0 0)), (19, .c (.isl 11 (St1.cellsL bd)))])
      (hl := [(0, some [.msl 2 1 0 vs.length, .msl 3 1 0 ar.length, .msl 1 2 0 0]), (1, some []), (2, some (va.map I64)), (3, some (hdr 4 5 ar.length)), (4, some (blk0 arr)), (5, some (blk1 arr)), (6, some [.v (.slice none 0 0), .v (.slice none 0 0)])]) ?_ ?_
    · simp [Mq, TmOK, DM, CM, CMs, HpOK, LowOK, hOf, upd, CMs_I, CMs_hdr, CMs_b0, CMs_b1]
    refine XK.callG [0, 1, 2, 3, 4, 5] hrn ok61 (hhp6 (by simp [hOf, upd, renCs, renC, rk0]) (by simp [hOf, upd, renCs_tr, renCs, renC, trC]) (by simp [hOf, upd, renCs_I]) (by simp [hOf, upd, renCs_hdr, rk0]) (by simp [hOf, upd, renCs_b0]) (by simp [hOf, upd, renCs_b1])) (hbT ()) (fun d h' ⟨_, e⟩ => by subst e; simp [stP']) ?_
    rintro _ _ ⟨rfl, rfl⟩ _
    unfold stP'
    iterate 3 (try (refine drv_sound (n := 12) (rs := _) Try.func22 mo rfl _ _ _ ?_; simp (maxSteps := 10000000) (maxDischargeDepth := 300) only [go_sem, Pg.cells, Ex.cells, St1.cells, isI, I64, Ex.cellsL_length, Ex.cellsL_get, St1.cellsL_length, St1.cellsL_get, renCs_I, renCs_hdr, renCs_b0, renCs_b1, renCs_tr]))
    (repeat' with_reducible apply And.intro) <;> (try first | omega | (simp only [InK]; omega) | (intro k e; cases e; rfl) | (intro hguard; exact ⟨hguard, by simp only [InK]; omega⟩) | kernel_rfl)
    iterate 3 (try (refine drv_sound (n := 12) (rs := _) Try.func22 mo rfl _ _ _ ?_; simp (maxSteps := 10000000) (maxDischargeDepth := 300) only [go_sem, Pg.cells, Ex.cells, St1.cells, isI, I64, Ex.cellsL_length, Ex.cellsL_get, St1.cellsL_length, St1.cellsL_get, renCs_I, renCs_hdr, renCs_b0, renCs_b1, renCs_tr]))
    (repeat' with_reducible apply And.intro) <;> (try first | omega | (simp only [InK]; omega) | (intro k e; cases e; rfl) | (intro hguard; exact ⟨hguard, by simp only [InK]; omega⟩) | kernel_rfl)
    refine RetOb.run hfin ?_ rfl rfl rfl rfl rfl rfl rfl (by decide)
    subst hR
    rw [hr]
    exact ⟨rfl, rfl⟩
end Go.Proofs.Ytclgjiffpijgmaa.CtR

namespace Go.Proofs.Ytclgjiffpijgmaa.CtR
open Go Go.CT CtF

set_option maxRecDepth 10000 in
theorem equalI (xs ys : List Int) (hl : xs.length ≤ mx) : DC Try.prog 66 [ints xs, ints ys] [] (fun r h => r = DB (decide (xs = ys)) ∧ h = []) := by
  have hmx := mx_eq
  have ret : ∀ (b : Bool) (hp : Hp), b = decide (xs = ys) → RetOb 0 (fun r h => r = DB (decide (xs = ys)) ∧ h = []) (DB b) hp := fun b hp h => RetOb.plain (d := DB _) ⟨by rw [h], rfl⟩ rfl
  by_cases hlen : xs.length = ys.length
  · have hb : ((xs.length : Int) != ys.length) = false := by simp [hlen]
    have he : ((xs.length : Int) = ys.length) = True := eq_true (by omega)
    refine dc_of_go Try.func66 rfl (by simp) ?_
    refine drv_sound (n := 100) (rs := _) Try.func66 mo rfl none _ _ ?_
    simp (maxSteps := 10000000) (maxDischargeDepth := 300) only [go_sem, ints, hb, he]
    refine Go.loopL (fun i : Nat => [(0, ints xs), (1, ints ys), (12, DI .i64 xs.length), (13, DI .i64 i)]) (fun _ => []) 1024 (fun i => i ≤ xs.length ∧ decide (xs = ys) = decide (xs.drop i = ys.drop i)) (fun i => xs.length - i) ?_ 0 some [] _ ⟨Nat.zero_le _, rfl⟩ ?_
    · intro i hi again
      refine drv_sound (n := 100) (rs := _) Try.func66 mo rfl none _ _ ?_
      rcases Nat.lt_or_ge i xs.length with hlt | hge
      · obtain ⟨x, hx⟩ : ∃ x, xs[i]? = some x := ⟨xs[i], by simp [hlt]⟩
        obtain ⟨y, hy⟩ : ∃ y, ys[i]? = some y := ⟨ys[i]'(by omega), by simp⟩
        have hI := hi.2
        obtain ⟨_, ex⟩ := List.getElem?_eq_some_iff.1 hx
        obtain ⟨hyl, ey⟩ := List.getElem?_eq_some_iff.1 hy
        rw [List.drop_eq_getElem_cons hlt, List.drop_eq_getElem_cons hyl, ex, ey] at hI
        simp (maxSteps := 10000000) (maxDischargeDepth := 300) only [go_sem, ints, hx, hy, hlt]
        (repeat' with_reducible apply And.intro) <;> (try first | omega | (simp only [InK]; omega) | (intro k e; cases e; rfl) | (intro hguard; exact ⟨hguard, by simp only [InK]; omega⟩) | kernel_rfl)
        · intro hne; exact ret _ _ (by rw [hI]; simp [hne])
        · intro heq; exact ⟨by simp only [InK]; omega, again (i + 1) some [] _ ⟨by omega, by rw [hI]; simp [heq]⟩ (by omega) (Mt.slots (by
            simp (maxSteps := 10000000) (maxDischargeDepth := 300) only [go_sem, TmOK, DM, DMs, CM, CMs, forall_eq, exists_eq_left, ints]))⟩
      · have hn : ¬ i < xs.length := by omega
        simp (maxSteps := 10000000) (maxDischargeDepth := 300) only [go_sem, ints, hn]
        refine ret _ _ ?_
        rw [hi.2, List.drop_of_length_le hge, List.drop_of_length_le (by omega)]; rfl
    · refine Mt.slots ?_
      simp (maxSteps := 10000000) (maxDischargeDepth := 300) only [go_sem, TmOK, DM, DMs, CM, CMs, forall_eq, exists_eq_left, ints]
  · have hb : ((xs.length : Int) != ys.length) = true := by simp; omega
    have he : ((xs.length : Int) = ys.length) = False := eq_false (by omega)
    refine dc_of_go Try.func66 rfl (by simp) ?_
    refine drv_sound (n := 100) (rs := _) Try.func66 mo rfl none _ _ ?_
    simp (maxSteps := 10000000) (maxDischargeDepth := 300) only [go_sem, ints, hb, he]
    refine ret _ _ ?_
    symm; rw [decide_eq_false_iff_not]; intro h; exact hlen (by rw [h])
end Go.Proofs.Ytclgjiffpijgmaa.CtR

namespace Go.Proofs.Ytclgjiffpijgmaa.CtR
open Go Go.CT CtF

theorem Ev.eq_iff (a b : Ev) : a = b ↔ a.kind = b.kind ∧ a.value = b.value := by cases a; cases b; simp

def trSame (xs ys : List Ev) : Bool := xs.length == ys.length && (xs.zip ys).all fun q => q.1.kind == q.2.kind && q.1.value == q.2.value
theorem trSame_iff : ∀ xs ys : List Ev, trSame xs ys = true ↔ xs = ys
  | [], [] => by simp [trSame]
  | [], b :: r => by simp [trSame]
  | a :: r, [] => by simp [trSame]
  | a :: r, b :: r' => by
    have ih := trSame_iff r r'
    simp only [trSame, List.length_cons, List.zip_cons_cons, List.all_cons, Bool.and_eq_true, beq_iff_eq] at ih ⊢
    rw [List.cons.injEq, Ev.eq_iff, ← ih]
    constructor
    · rintro ⟨h1, ⟨h2, h3⟩, h4⟩; exact ⟨⟨h2, h3⟩, by omega, h4⟩
    · rintro ⟨⟨h2, h3⟩, h1, h4⟩; exact ⟨by omega, ⟨h2, h3⟩, h4⟩

set_option maxRecDepth 10000 in
theorem equalEv (xs ys : List Ev) (hl : xs.length ≤ mx) : DC Try.prog 62 [.c (trD xs), .c (trD ys)] [] (fun r h => r = DB (trSame xs ys) ∧ h = []) := by
  have hmx := mx_eq
  have ret : ∀ (b : Bool) (hp : Hp), b = trSame xs ys → RetOb 0 (fun r h => r = DB (trSame xs ys) ∧ h = []) (DB b) hp := fun b hp h => RetOb.plain (d := DB _) ⟨by rw [h], rfl⟩ rfl
  by_cases hlen : xs.length = ys.length
  · have hb : ((xs.length : Int) != ys.length) = false := by simp [hlen]
    have he : ((xs.length : Int) = ys.length) = True := eq_true (by omega)
    refine dc_of_go Try.func62 rfl (by simp) ?_
    refine drv_sound (n := 100) (rs := _) Try.func62 mo rfl none _ _ ?_
    simp (maxSteps := 10000000) (maxDischargeDepth := 300) only [go_sem, trD, hb, he]
    refine Go.loopL (fun i : Nat => [(0, .c (trD xs)), (1, .c (trD ys)), (12, DI .i64 xs.length), (13, DI .i64 i)]) (fun _ => []) 1024 (fun i => i ≤ xs.length ∧ trSame xs ys = trSame (xs.drop i) (ys.drop i)) (fun i => xs.length - i) ?_ 0 some [] _ ⟨Nat.zero_le _, rfl⟩ ?_
    · intro i hi again
      refine drv_sound (n := 100) (rs := _) Try.func62 mo rfl none _ _ ?_
      rcases Nat.lt_or_ge i xs.length with hlt | hge
      · obtain ⟨⟨k1, v1⟩, hx⟩ : ∃ x, xs[i]? = some x := ⟨xs[i], by simp [hlt]⟩
        obtain ⟨⟨k2, v2⟩, hy⟩ : ∃ y, ys[i]? = some y := ⟨ys[i]'(by omega), by simp⟩
        have hI := hi.2
        obtain ⟨_, ex⟩ := List.getElem?_eq_some_iff.1 hx
        obtain ⟨hyl, ey⟩ := List.getElem?_eq_some_iff.1 hy
        rw [List.drop_eq_getElem_cons hlt, List.drop_eq_getElem_cons hyl, ex, ey] at hI
        have hd : (xs.drop (i + 1)).length = (ys.drop (i + 1)).length := by simp; omega
        have hI2 : trSame xs ys = ((decide (k1 = k2) && decide (v1 = v2)) && trSame (xs.drop (i + 1)) (ys.drop (i + 1))) := by
          rw [hI]
          simp only [trSame, List.length_cons, hd, List.zip_cons_cons, List.all_cons, beq_self_eq_true, Bool.true_and]
          rfl
        simp (maxSteps := 10000000) (maxDischargeDepth := 300) only [go_sem, trD, hx, hy, hlt, Ev.cells, I64]
        (repeat' with_reducible apply And.intro) <;> (try first | omega | (simp only [InK]; omega) | (intro k e; cases e; rfl) | (intro hguard; exact ⟨hguard, by simp only [InK]; omega⟩) | kernel_rfl)
        · intro h; exact ret _ _ (by rw [hI2]; by_cases h1 : k1 = k2 <;> simp_all)
        · intro h; exact ⟨by simp only [InK]; omega, again (i + 1) some [] _ ⟨by omega, by rw [hI2]; simp [h.1, h.2]⟩ (by omega) (Mt.slots (by
            simp (maxSteps := 10000000) (maxDischargeDepth := 300) only [go_sem, TmOK, DM, DMs, CM, CMs, forall_eq, exists_eq_left, trD]))⟩
      · have hn : ¬ i < xs.length := by omega
        simp (maxSteps := 10000000) (maxDischargeDepth := 300) only [go_sem, trD, hn]
        refine ret _ _ ?_
        rw [hi.2, List.drop_of_length_le hge, List.drop_of_length_le (by omega)]; rfl
    · refine Mt.slots ?_
      simp (maxSteps := 10000000) (maxDischargeDepth := 300) only [go_sem, TmOK, DM, DMs, CM, CMs, forall_eq, exists_eq_left, trD]
  · have hb : ((xs.length : Int) != ys.length) = true := by simp; omega
    have he : ((xs.length : Int) = ys.length) = False := eq_false (by omega)
    refine dc_of_go Try.func62 rfl (by simp) ?_
    refine drv_sound (n := 100) (rs := _) Try.func62 mo rfl none _ _ ?_
    simp (maxSteps := 10000000) (maxDischargeDepth := 300) only [go_sem, trD, hb, he]
    refine ret _ _ ?_
    simp [trSame, hlen]

set_option maxRecDepth 10000 in
theorem traceSame (xs ys : List Ev) (hl : xs.length ≤ mx) : DC Try.prog 23 [.c (trD xs), .c (trD ys)] [] (fun r h => r = DB (trSame xs ys) ∧ h = []) := by
  refine dc_of_go Try.func23 rfl (by simp) ?_
  refine drv_sound (n := 100) (rs := _) Try.func23 mo rfl none _ _ ?_
  simp (maxSteps := 10000000) (maxDischargeDepth := 300) only [go_sem, trD]
  refine XK.plain (equalEv xs ys hl) ok62 ?_
  refine drv_sound (n := 100) (rs := _) Try.func23 mo rfl (some _) _ _ ?_
  simp (maxSteps := 10000000) (maxDischargeDepth := 300) only [go_sem, trD]
  exact RetOb.plain (d := DB _) ⟨rfl, rfl⟩ rfl

set_option maxRecDepth 10000 in
theorem equalFunc (xs ys : List (List Int)) (hl : xs.length ≤ mx) (hx4 : ∀ a ∈ xs, a.length ≤ mx) : DC Try.prog 67 [.c (.isl 1 (xs.map fun a => [isI a])), .c (.isl 1 (ys.map fun a => [isI a])), .c (.clo 66 [])] [] (fun r h => r = DB (decide (xs = ys)) ∧ h = []) := by
  have hmx := mx_eq
  have ret : ∀ (b : Bool) (hp : Hp), b = decide (xs = ys) → RetOb 0 (fun r h => r = DB (decide (xs = ys)) ∧ h = []) (DB b) hp := fun b hp h => RetOb.plain (d := DB _) ⟨by rw [h], rfl⟩ rfl
  by_cases hlen : xs.length = ys.length
  · have hb : ((xs.length : Int) != ys.length) = false := by simp [hlen]
    have he : ((xs.length : Int) = ys.length) = True := eq_true (by omega)
    refine dc_of_go Try.func67 rfl (by simp) ?_
    refine drv_sound (n := 100) (rs := _) Try.func67 mo rfl none _ _ ?_
    simp (maxSteps := 10000000) (maxDischargeDepth := 300) only [go_sem, isI, I64, hb, he]
    refine Go.loopL (fun i : Nat => [(1, .c (.isl 1 (ys.map fun a => [isI a]))), (2, .c (.clo 66 [])), (15, .c (.isl 1 (xs.map fun a => [isI a]))), (16, DI .i64 xs.length), (17, DI .i64 i)]) (fun _ => []) 1024 (fun i => i ≤ xs.length ∧ decide (xs = ys) = decide (xs.drop i = ys.drop i)) (fun i => xs.length - i) ?_ 0 some [] _ ⟨Nat.zero_le _, rfl⟩ ?_
    · intro i hi again
      refine drv_sound (n := 100) (rs := _) Try.func67 mo rfl none _ _ ?_
      rcases Nat.lt_or_ge i xs.length with hlt | hge
      · obtain ⟨x, hx⟩ : ∃ x, xs[i]? = some x := ⟨xs[i], by simp [hlt]⟩
        obtain ⟨y, hy⟩ : ∃ y, ys[i]? = some y := ⟨ys[i]'(by omega), by simp⟩
        have hI := hi.2
        obtain ⟨_, ex⟩ := List.getElem?_eq_some_iff.1 hx
        obtain ⟨hyl, ey⟩ := List.getElem?_eq_some_iff.1 hy
        rw [List.drop_eq_getElem_cons hlt, List.drop_eq_getElem_cons hyl, ex, ey] at hI
        simp (maxSteps := 10000000) (maxDischargeDepth := 300) only [go_sem, isI, I64, hx, hy, hlt]
        (repeat' with_reducible apply And.intro) <;> (try first | omega | (simp only [InK]; omega) | (intro k e; cases e; rfl) | (intro hguard; exact ⟨hguard, by simp only [InK]; omega⟩) | kernel_rfl)
        refine XK.plain (equalI x y (hx4 x (List.mem_of_getElem? hx))) ok66 ?_
        refine drv_sound (n := 100) (rs := _) Try.func67 mo rfl (some _) _ _ ?_
        simp (maxSteps := 10000000) (maxDischargeDepth := 300) only [go_sem, isI, I64]
        refine ⟨fun hne => ret _ _ (by rw [hI]; simp [hne]), fun heq => ⟨by simp only [InK]; omega, again (i + 1) some [] _ ⟨by omega, by rw [hI]; simp [heq]⟩ (by omega) (Mt.slots (by
            simp (maxSteps := 10000000) (maxDischargeDepth := 300) only [go_sem, TmOK, DM, DMs, CM, CMs, forall_eq, exists_eq_left, isI, I64]))⟩⟩
      · have hn : ¬ i < xs.length := by omega
        simp (maxSteps := 10000000) (maxDischargeDepth := 300) only [go_sem, isI, I64, hn]
        refine ret _ _ ?_
        rw [hi.2, List.drop_of_length_le hge, List.drop_of_length_le (by omega)]; rfl
    · refine Mt.slots ?_
      simp (maxSteps := 10000000) (maxDischargeDepth := 300) only [go_sem, TmOK, DM, DMs, CM, CMs, forall_eq, exists_eq_left, isI, I64]
  · have hb : ((xs.length : Int) != ys.length) = true := by simp; omega
    have he : ((xs.length : Int) = ys.length) = False := eq_false (by omega)
    refine dc_of_go Try.func67 rfl (by simp) ?_
    refine drv_sound (n := 100) (rs := _) Try.func67 mo rfl none _ _ ?_
    simp (maxSteps := 10000000) (maxDischargeDepth := 300) only [go_sem, isI, I64, hb, he]
    refine ret _ _ ?_
    symm; rw [decide_eq_false_iff_not]; intro h; exact hlen (by rw [h])

def memSame (a b : Mm) : Bool := decide (a.vals = b.vals) && decide (a.arrays = b.arrays)

set_option maxRecDepth 10000 in
theorem memorySame (a b : Mm) (h1 : a.vals.length ≤ mx) (h2 : a.arrays.length ≤ mx) (h3 : ∀ x ∈ a.arrays, x.length ≤ mx) : DC Try.prog 30 [.agg a.cells, .agg b.cells] [] (fun r h => r = DB (memSame a b) ∧ h = []) := by
  obtain ⟨va, arr⟩ := a
  obtain ⟨vb, brr⟩ := b
  refine dc_of_go Try.func30 rfl (by simp) ?_
  refine drv_sound (n := 100) (rs := _) Try.func30 mo rfl none _ _ ?_
  simp (maxSteps := 10000000) (maxDischargeDepth := 300) only [go_sem, Mm.cells, isI, I64]
  refine XK.plain (equalI va vb h1) ok66 ?_ (hbT ())
  refine drv_sound (n := 100) (rs := _) Try.func30 mo rfl (some _) _ _ ?_
  simp (maxSteps := 10000000) (maxDischargeDepth := 300) only [go_sem, Mm.cells, isI, I64]
  refine XK.gplain 5 true (decide (va = vb)) (fun _ => equalFunc arr brr h2 h3) ok67 ?_ (hbT ()) (hok := by intro hx; simp [okP, getCall, Call.operands, evT, upd, peelB, DB, DI, cst, one] at hx ⊢; first | done | exact hx | (simp_all; done) | omega)
  refine drv_sound (n := 100) (rs := _) Try.func30 mo rfl (some _) _ _ ?_
  simp (maxSteps := 10000000) (maxDischargeDepth := 300) only [go_sem, Mm.cells, isI, I64]
  exact RetOb.plain (d := DB _) ⟨rfl, rfl⟩ rfl
end Go.Proofs.Ytclgjiffpijgmaa.CtR

namespace Go.Proofs.Ytclgjiffpijgmaa.CtR
open Go Go.CT CtF

/-! Plain laws of runs. -/
theorem memSame_refl (m : Mm) : memSame m m = true := by simp [memSame]
theorem trSame_refl (t : List Ev) : trSame t t = true := (trSame_iff t t).2 rfl
theorem runP_empty (vs ar : List Int) (m : Mm) : (runP ⟨vs, ar, []⟩ m).2.1 = [] ∧ ((runP ⟨vs, ar, []⟩ m).2.2 = true → (runP ⟨vs, ar, []⟩ m).1 = m) := by
  unfold runP
  split
  · exact ⟨rfl, fun _ => rfl⟩
  · exact ⟨rfl, fun h => by cases h⟩
theorem foldR_app (f : Mm → St1 → Mm × List Ev) : ∀ (a b : List St1) (m : Mm), foldR f m (a ++ b) = ((foldR f (foldR f m a).1 b).1, (foldR f m a).2 ++ (foldR f (foldR f m a).1 b).2)
  | [], b, m => by simp [foldR]
  | x :: r, b, m => by simp only [List.cons_append, foldR, foldR_app f r b, List.append_assoc]
end Go.Proofs.Ytclgjiffpijgmaa.CtR

namespace Go.Proofs.Ytclgjiffpijgmaa.CtR
open Go Go.CT CtF

theorem shape_bd (vs ar : List Int) (b1 b2 : List St1) : ∀ (d : Nat) (e : Ex), shape ⟨vs, ar, b1⟩ d e = shape ⟨vs, ar, b2⟩ d e
  | 0, _ => rfl
  | d + 1, .mk k v ks => by
    have h : shape ⟨vs, ar, b1⟩ d = shape ⟨vs, ar, b2⟩ d := funext (shape_bd vs ar b1 b2 d)
    simp only [shape, h]
    rfl
theorem right_bd (vs ar : List Int) (b1 b2 : List St1) (e : Ex) : right ⟨vs, ar, b1⟩ e = right ⟨vs, ar, b2⟩ e := by simp only [right, shape_bd vs ar b1 b2]
theorem stmtOK_bd (vs ar : List Int) (b1 b2 : List St1) : ∀ (d : Nat) (s : St1), stmtOK ⟨vs, ar, b1⟩ d s = stmtOK ⟨vs, ar, b2⟩ d s
  | 0, _ => rfl
  | d + 1, .mk k t ix v c b e => by
    have h : stmtOK ⟨vs, ar, b1⟩ d = stmtOK ⟨vs, ar, b2⟩ d := funext (stmtOK_bd vs ar b1 b2 d)
    simp only [stmtOK, headOK, right_bd vs ar b1 b2, h]
theorem foldR_congr {f g : Mm → St1 → Mm × List Ev} : ∀ (l : List St1) (m : Mm), (∀ s ∈ l, ∀ m, f m s = g m s) → foldR f m l = foldR g m l
  | [], _, _ => rfl
  | a :: r, m, h => by
    simp only [foldR, h a (by simp), foldR_congr r _ fun s hs => h s (by simp [hs])]
/-- A statement that fits in d levels runs the same with one more. -/
theorem runS_more {p : Pg} : ∀ (d : Nat) (m : Mm) (s : St1), stmtOK p d s = true → runS (d + 1) m s = runS d m s
  | 0, _, s, h => by simp [stmtOK] at h
  | d + 1, m, .mk k t ix v c b e, h => by
    obtain ⟨_, hb, he⟩ := stmtOK_succ h
    have fb : ∀ m, foldR (runS (d + 1)) m b = foldR (runS d) m b := fun m => foldR_congr b m fun s hs m => runS_more d m s (hb s hs)
    have fe : ∀ m, foldR (runS (d + 1)) m e = foldR (runS d) m e := fun m => foldR_congr e m fun s hs m => runS_more d m s (he s hs)
    rw [runS, runS]
    simp only [fb, fe]
theorem runL_more {p : Pg} {d : Nat} {m : Mm} {l : List St1} (h : ∀ s ∈ l, stmtOK p d s = true) : runL (d + 1) m l = runL d m l :=
  foldR_congr l m fun s hs m => runS_more d m s (h s hs)
theorem memOK_of {p : Pg} {m : Mm} (h : MemFits p m) : memOK p.vars p.arrays m = true := by
  simp only [memOK, vals01, arrOK, Bool.and_eq_true, decide_eq_true_eq, List.all_eq_true]
  refine ⟨⟨⟨by rw [h.nv], by rw [h.na]⟩, fun x hx => h.val x hx⟩, fun a ha => ⟨by have := (h.arr a ha).1; omega, fun x hx => (h.arr a ha).2 x hx⟩⟩
theorem runP_of {p : Pg} {m : Mm} (h1 : progOK p = true) (h2 : memOK p.vars p.arrays m = true) : runP p m = ((runL 5 m p.body).1, (runL 5 m p.body).2, true) := runP_true (by rw [h1, h2]; rfl)
theorem runP_ok {p : Pg} {m : Mm} (h : (runP p m).2.2 = true) : progOK p = true ∧ memOK p.vars p.arrays m = true := by
  cases hq : (progOK p && memOK p.vars p.arrays m) with
  | false => rw [runP_false hq] at h; cases h
  | true => simpa only [Bool.and_eq_true] using hq
theorem runP_out {p : Pg} {m : Mm} (h1 : progOK p = true) (h2 : memOK p.vars p.arrays m = true) : memOK p.vars p.arrays (runL 5 m p.body).1 = true :=
  memOK_of (runL_ok (memFits_of (by rw [h1, h2]; rfl)) (body_of h1).1).1
theorem lsize_app (d : Nat) (a b : List St1) : lsize d (a ++ b) = lsize d a + lsize d b := by simp [lsize]
theorem progOK_sub {vs ar : List Int} {bd b2 : List St1} (h : progOK ⟨vs, ar, bd⟩ = true) (hs : ∀ s ∈ b2, s ∈ bd) (hl : lsize 5 b2 ≤ lsize 5 bd) : progOK ⟨vs, ar, b2⟩ = true := by
  simp only [progOK, Bool.and_eq_true, decide_eq_true_eq, List.all_eq_true] at h ⊢
  exact ⟨⟨h.1.1, fun s hx => by rw [stmtOK_bd vs ar b2 bd]; exact h.1.2 s (hs s hx)⟩, by omega⟩
/-- Execution is sequential. -/
theorem runP_seq {vs ar : List Int} {bd : List St1} {m : Mm} (h1 : progOK ⟨vs, ar, bd⟩ = true) (h2 : memOK vs ar m = true) (k : Nat) :
    ∃ m1 t1 m2 t2, runP ⟨vs, ar, bd.take k⟩ m = (m1, t1, true) ∧ runP ⟨vs, ar, bd.drop k⟩ m1 = (m2, t2, true) ∧ runP ⟨vs, ar, bd⟩ m = (m2, t1 ++ t2, true) := by
  have hl := lsize_app 5 (bd.take k) (bd.drop k)
  rw [List.take_append_drop] at hl
  have ht : progOK ⟨vs, ar, bd.take k⟩ = true := progOK_sub h1 (fun s hs => List.mem_of_mem_take hs) (by omega)
  have hd : progOK ⟨vs, ar, bd.drop k⟩ = true := progOK_sub h1 (fun s hs => List.mem_of_mem_drop hs) (by omega)
  have ho : memOK vs ar (runL 5 m (bd.take k)).1 = true := runP_out (p := ⟨vs, ar, bd.take k⟩) ht h2
  refine ⟨_, _, _, _, runP_of ht h2, runP_of hd ho, ?_⟩
  rw [runP_of h1 h2]
  have := foldR_app (runS 5) (bd.take k) (bd.drop k) m
  rw [List.take_append_drop] at this
  simp only [runL, this]
/-- Repetition is sequencing. -/
theorem runP_rep {vs ar : List Int} {bd : List St1} {m : Mm} (h1 : progOK ⟨vs, ar, bd⟩ = true) (h2 : memOK vs ar m = true) (ix v : Ex) :
    ∃ m1 t1 m2 t2 ok, runP ⟨vs, ar, bd⟩ m = (m1, t1, true) ∧ runP ⟨vs, ar, bd⟩ m1 = (m2, t2, true) ∧ runP ⟨vs, ar, [.mk 4 0 ix v 2 bd []]⟩ m = (if ok then m2 else ⟨[], []⟩, if ok then t1 ++ t2 else [], ok) := by
  have ho : memOK vs ar (runL 5 m bd).1 = true := runP_out (p := ⟨vs, ar, bd⟩) h1 h2
  cases hq : progOK ⟨vs, ar, [.mk 4 0 ix v 2 bd []]⟩ with
  | false =>
    refine ⟨_, _, _, _, false, runP_of h1 h2, runP_of h1 ho, ?_⟩
    rw [runP_false (by rw [hq]; rfl)]; rfl
  | true =>
    refine ⟨_, _, _, _, true, runP_of h1 h2, runP_of h1 ho, ?_⟩
    have hb := (stmtOK_succ ((body_of hq).1 _ (List.mem_singleton.2 rfl))).2.1
    have hm : ∀ m, runL 5 m bd = runL 4 m bd := fun m => runL_more hb
    rw [runP_of hq h2]
    simp only [hm, if_true]
    simp [runL, foldR, runS, iterR]
/-- Conditionals choose a branch. -/
theorem runP_if {vs ar : List Int} {bd : List St1} {m : Mm} (h1 : progOK ⟨vs, ar, bd⟩ = true) (h2 : memOK vs ar m = true) (ix e : Ex) :
    ∃ m1 t1 ok, runP ⟨vs, ar, bd⟩ m = (m1, t1, true) ∧ runP ⟨vs, ar, [.mk 3 0 ix e 0 bd []]⟩ m =
      (if ok then (if (evalE m 5 e).1 = 0 then m else m1) else ⟨[], []⟩, if ok then (if (evalE m 5 e).1 = 0 then (evalE m 5 e).2 ++ [⟨1, 0⟩] else (evalE m 5 e).2 ++ [⟨1, 1⟩] ++ t1) else [], ok) := by
  cases hq : progOK ⟨vs, ar, [.mk 3 0 ix e 0 bd []]⟩ with
  | false =>
    refine ⟨_, _, false, runP_of h1 h2, ?_⟩
    rw [runP_false (by rw [hq]; rfl)]; rfl
  | true =>
    refine ⟨_, _, true, runP_of h1 h2, ?_⟩
    have hb := (stmtOK_succ ((body_of hq).1 _ (List.mem_singleton.2 rfl))).2.1
    have hm : ∀ m, runL 5 m bd = runL 4 m bd := fun m => runL_more hb
    rw [runP_of hq h2]
    simp only [hm, if_true]
    by_cases hz : (evalE m 5 e).1 = 0 <;> simp [runL, foldR, runS, hz]
end Go.Proofs.Ytclgjiffpijgmaa.CtR

namespace Go.Proofs.Ytclgjiffpijgmaa.CtD
open Go Go.CT CtF CtR

theorem runP_sm (p : Pg) (m : Mm) : (runP p m).1.vals.length ≤ 12 ∧ (runP p m).1.arrays.length ≤ 2 ∧ (∀ a ∈ (runP p m).1.arrays, a.length ≤ 4) ∧ (runP p m).2.1.length ≤ 1000000 := by
  cases hq : (progOK p && memOK p.vars p.arrays m) with
  | false => rw [runP_false hq]; simp
  | true =>
    rw [runP_true hq]
    have hm := memFits_of hq
    simp only [Bool.and_eq_true] at hq
    have hb := body_of hq.1
    have h := runL_ok hm hb.1
    have h2 := h.2
    rw [wt5] at h2
    refine ⟨by rw [h.1.nv]; exact hm.nv12.2, by rw [h.1.na]; exact hm.na2, fun a ha => by have := (h.1.arr a ha).1; omega, ?_⟩
    have := hb.2
    simp only
    omega

end Go.Proofs.Ytclgjiffpijgmaa.CtD
