/- Contracts of functions of the program, one behind the other, as plain data: what each call returns and which blocks it leaves. -/
import Derived.Test.YtjjjidcbokbhpaaGreatJFacts
import Derived.Test.YtjjjidcbokbhpaaGreatJAi
import Derived.Test.YtjjjidcbokbhpaaGreatJAj
import Derived.Test.YtjjjidcbokbhpaaGreatJAk
import Derived.Test.YtjjjidcbokbhpaaGreatJAm
import Derived.Test.YtjjjidcbokbhpaaGreatJAn
import Derived.Test.YtjjjidcbokbhpaaGreatJAp
import Derived.Test.YtjjjidcbokbhpaaGreatJAq
import Derived.Test.YtjjjidcbokbhpaaGreatJAt
import Derived.Test.YtjjjidcbokbhpaaGreatJAu
import Derived.Test.YtjjjidcbokbhpaaGreatJAv
import Derived.Test.YtjjjidcbokbhpaaGreatJAw
import Derived.Test.YtjjjidcbokbhpaaGreatJAx
import Derived.Test.YtjjjidcbokbhpaaGreatJBc
import Derived.Test.YtjjjidcbokbhpaaGreatJBd
import Derived.Test.YtjjjidcbokbhpaaGreatJAl
import Derived.Test.YtjjjidcbokbhpaaGreatJAo
import Derived.Test.YtjjjidcbokbhpaaGreatJAz
import Derived.Test.YtjjjidcbokbhpaaGreatJBb
set_option linter.unusedVariables false
set_option linter.unusedSimpArgs false
set_option maxHeartbeats 16000000
set_option maxRecDepth 100000
namespace Go.Proofs.YtjjjidcbokbhpaaGreat.CtD
open Go Go.CT CtF CtR
open CtL (isC foldE foldL foldC foldV foldS foldP)
def BlkG (p : Pg) (d : Nat) : Prop := ∀ (l : List St1), (∀ s ∈ l, stmtOK p d s = true) → lsize d l ≤ 1000 →
 DC Tryz.prog 54 [.c (.isl 11 (St1.cellsL l))] [] (fun r h => r = .c (.isl 11 (St1.cellsL (foldL (foldS d) l))) ∧ h = [])
theorem foldBl1 {p : Pg} (d : Nat) (ih : ∀ d', d = d' + 1 → BlkG p d') : BlkG p d := by
 have hmx := mx_eq
 intro l hok hz
 have hll : l.length ≤ 1000 := by
  have h : ∀ s ∈ l, 1 ≤ tsize d s := fun s hs => by
   cases d with
   | zero => have := hok s hs; simp [stmtOK] at this
   | succ d => exact tsize_pos s
  have := len_le_sum (tsize d) l h
  unfold lsize at hz
  omega
 have hT : ∀ i x, l[i]? = some x → foldL (foldS d) (l.take (i + 1)) = foldL (foldS d) (l.take i) ++ foldS d x := fun i x hx => by
  rw [List.take_add_one, hx]; exact foldL_snoc _ _ _
 have hTl : ∀ i, (foldL (foldS d) (l.take i)).length ≤ 1000 := fun i => foldL_len (fun s hs => hok s (List.mem_of_mem_take hs)) (Nat.le_trans (take_lsize d l i) hz)
 have hsumz := fun i => tsum_le (tsize d) l i
 have hlz : lsize d l = (l.map (tsize d)).sum := rfl
 generalize hR : (fun (r : D) (h : List (Option (List C))) => r = .c (.isl 11 (St1.cellsL (foldL (foldS d) l))) ∧ h = []) = R
 have hfe := fun e he => foldSE 5 e p he
 unfold BlkG at ih
 refine dcZ Tryz.func54 ?_
 simp only [go_sem]
 iterate 3 ((try (refine drvZ Tryz.func54 ?_; simp only [go_sem])); ((with_reducible and_intros) <;> try exact sd))
 refine Go.loopQ (fun i : Nat => [(0, .c (.isl 11 (St1.cellsL l))), (3, .c (.msl 67 11 0 (foldL (foldS d) (l.take i)).length)), (4, DI .i64 i)])
  (fun i => [(67, some (stC (foldL (foldS d) (l.take i))))])
  8192 (fun i => i ≤ l.length) (fun i => l.length - i) ?_ 0 (fun j => if j = 67 then some 64 else some j) [] _ (Nat.zero_le _) ?_
 ·intro i hi again
  rcases Nat.lt_or_ge i l.length with hlt | hge
  ·obtain ⟨⟨k, t, ix, ⟨vk, vv, vks⟩, c, b, e⟩, hx⟩ : ∃ x, l[i]? = some x := ⟨l[i], by simp [hlt]⟩
   have hso := hok _ (List.mem_of_getElem? hx)
   obtain ⟨d, rfl⟩ : ∃ d', d = d' + 1 := by
    cases d with
    | zero => simp [stmtOK] at hso
    | succ d => exact ⟨d, rfl⟩
   have ih := ih d rfl
   have hTi := hT i _ hx
   have hTl := hTl i
   have hsu := hsumz (i + 1)
   rw [tsum_succ (tsize (d + 1)) l i _ hx] at hsu
   obtain ⟨hh, hbo, heo⟩ := stmtOK_succ hso
   have hts : tsize (d + 1) (.mk k t ix (.mk vk vv vks) c b e) = 1 + lsize d b + lsize d e := by simp [tsize, lsize]
   clear hT
   generalize foldL (foldS (d + 1)) (l.take i) = T at *
   have hclT := stC_len T
   rcases head_kind hh with ⟨hk | hk, ht0, ht1, hrv⟩ | ⟨hk, ht0, ht1, hri, hat, hrv⟩ | ⟨hk, hrv⟩ | ⟨hk, hc1, hc3⟩
   ·subst hk
    obtain ⟨rfl, hix⟩ := (CtL.head_parts hh).2.1 (by decide)
    obtain rfl := hix (by decide)
    obtain ⟨rfl, rfl⟩ := (CtL.head_parts hh).2.2.1 (by decide) (by decide)
    have hfo := hfe _ (right_shape hrv).1
    have hib := ih [] (by simp) (by simp [lsize])
    rw [show foldL (foldS d) [] = [] from rfl] at hib
    have hdS : foldS (d + 1) (.mk 1 t CtL.e0 (.mk vk vv vks) 0 [] []) = [.mk 1 t CtL.e0 (foldE 5 (.mk vk vv vks)) 0 [] []] := by simp [foldS, foldC, foldV, foldL]
    rw [hdS] at hTi
    generalize foldE 5 (.mk vk vv vks) = E at *
    obtain ⟨ek, ev, ez⟩ := E
    have hie := hib
    have hcp := copyE CtL.e0 CtL.FE_e0
    simp only [Ex.cells, Ex.cellsL, CtL.e0] at hfo hx hcp
    refine drvL Tryz.func54 ?_
    simp only [go_sem, hx, hlt, hclT, List.length_append]
    iterate 22 ((try (refine drvZ Tryz.func54 ?_; simp only [go_sem, hx, hlt, hclT, List.length_append])); ((with_reducible and_intros) <;> try exact sd); (try first | refine XK.p hcp ok120 ?_ | refine XK.gp hcp ok120 ?_ | refine XK.p hfo ok121 ?_ | refine XK.gp hfo ok121 ?_ | refine XK.p hib ok54 ?_ | refine XK.gp hib ok54 ?_ | refine XK.p hie ok54 ?_ | refine XK.gp hie ok54 ?_))
    refine again (i + 1) (fun j => if j = 67 then some 13376 else some j) [] _ hlt (by omega) ?_
    rw [hTi]
    simp only [go_sem, TmOK, DM, DMs, CM, CMs, forall_eq, exists_eq_left, Mq, HpOK, LowOK, stC_app2, List.length_append, List.append_nil, List.length_nil, Nat.add_zero]
    simp [stC_cells, stC_one, St1.cells, St1.cellsL, Ex.cells, Ex.cellsL, CtL.e0, CMs_st]
    try exact CMs.app (CMs.kf (stC_kf T)) (by simp [CMs, CM, CMs_st, CtL.e0, St1.cells, St1.cellsL, Ex.cells, Ex.cellsL])
    try exact CMs.app (CMs.kf (stC_kf T)) (CMs.kf (stC_kf _))
   ·subst hk
    obtain ⟨rfl, hix⟩ := (CtL.head_parts hh).2.1 (by decide)
    obtain rfl := hix (by decide)
    obtain ⟨rfl, rfl⟩ := (CtL.head_parts hh).2.2.1 (by decide) (by decide)
    have hfo := hfe _ (right_shape hrv).1
    have hib := ih [] (by simp) (by simp [lsize])
    rw [show foldL (foldS d) [] = [] from rfl] at hib
    have hdS : foldS (d + 1) (.mk 5 t CtL.e0 (.mk vk vv vks) 0 [] []) = [.mk 5 t CtL.e0 (foldE 5 (.mk vk vv vks)) 0 [] []] := by simp [foldS, foldC, foldV, foldL]
    rw [hdS] at hTi
    generalize foldE 5 (.mk vk vv vks) = E at *
    obtain ⟨ek, ev, ez⟩ := E
    have hie := hib
    have hcp := copyE CtL.e0 CtL.FE_e0
    simp only [Ex.cells, Ex.cellsL, CtL.e0] at hfo hx hcp
    refine drvL Tryz.func54 ?_
    simp only [go_sem, hx, hlt, hclT, List.length_append]
    iterate 22 ((try (refine drvZ Tryz.func54 ?_; simp only [go_sem, hx, hlt, hclT, List.length_append])); ((with_reducible and_intros) <;> try exact sd); (try first | refine XK.p hcp ok120 ?_ | refine XK.gp hcp ok120 ?_ | refine XK.p hfo ok121 ?_ | refine XK.gp hfo ok121 ?_ | refine XK.p hib ok54 ?_ | refine XK.gp hib ok54 ?_ | refine XK.p hie ok54 ?_ | refine XK.gp hie ok54 ?_))
    refine again (i + 1) (fun j => if j = 67 then some 13376 else some j) [] _ hlt (by omega) ?_
    rw [hTi]
    simp only [go_sem, TmOK, DM, DMs, CM, CMs, forall_eq, exists_eq_left, Mq, HpOK, LowOK, stC_app2, List.length_append, List.append_nil, List.length_nil, Nat.add_zero]
    simp [stC_cells, stC_one, St1.cells, St1.cellsL, Ex.cells, Ex.cellsL, CtL.e0, CMs_st]
    try exact CMs.app (CMs.kf (stC_kf T)) (by simp [CMs, CM, CMs_st, CtL.e0, St1.cells, St1.cellsL, Ex.cells, Ex.cellsL])
    try exact CMs.app (CMs.kf (stC_kf T)) (CMs.kf (stC_kf _))
   ·subst hk
    obtain ⟨ik, iv, iks⟩ := ix
    obtain ⟨rfl, _⟩ := (CtL.head_parts hh).2.1 (by decide)
    obtain ⟨rfl, rfl⟩ := (CtL.head_parts hh).2.2.1 (by decide) (by decide)
    have hfo := hfe _ (right_shape hrv).1
    have hib := ih [] (by simp) (by simp [lsize])
    rw [show foldL (foldS d) [] = [] from rfl] at hib
    have hdS : foldS (d + 1) (.mk 2 t (.mk ik iv iks) (.mk vk vv vks) 0 [] []) = [.mk 2 t (.mk ik iv iks) (foldE 5 (.mk vk vv vks)) 0 [] []] := by simp [foldS, foldC, foldV, foldL]
    rw [hdS] at hTi
    generalize foldE 5 (.mk vk vv vks) = E at *
    obtain ⟨ek, ev, ez⟩ := E
    have hie := hib
    have hcp := copyE (.mk ik iv iks) (CtL.FE_shape 5 _ (right_shape hri).1)
    simp only [Ex.cells] at hfo hcp
    refine drvL Tryz.func54 ?_
    simp only [go_sem, hx, hlt, hclT, List.length_append]
    iterate 22 ((try (refine drvZ Tryz.func54 ?_; simp only [go_sem, hx, hlt, hclT, List.length_append])); ((with_reducible and_intros) <;> try exact sd); (try first | refine XK.p hcp ok120 ?_ | refine XK.gp hcp ok120 ?_ | refine XK.p hfo ok121 ?_ | refine XK.gp hfo ok121 ?_ | refine XK.p hib ok54 ?_ | refine XK.gp hib ok54 ?_ | refine XK.p hie ok54 ?_ | refine XK.gp hie ok54 ?_))
    refine again (i + 1) (fun j => if j = 67 then some 13376 else some j) [] _ hlt (by omega) ?_
    rw [hTi]
    simp only [go_sem, TmOK, DM, DMs, CM, CMs, forall_eq, exists_eq_left, Mq, HpOK, LowOK, stC_app2, List.length_append, List.append_nil, List.length_nil, Nat.add_zero]
    simp [stC_cells, stC_one, St1.cells, St1.cellsL, Ex.cells, Ex.cellsL, CtL.e0, CMs_st]
    try exact CMs.app (CMs.kf (stC_kf T)) (by simp [CMs, CM, CMs_st, CtL.e0, St1.cells, St1.cellsL, Ex.cells, Ex.cellsL])
    try exact CMs.app (CMs.kf (stC_kf T)) (CMs.kf (stC_kf _))
   ·subst hk
    obtain ⟨rfl, hix⟩ := (CtL.head_parts hh).2.1 (by decide)
    obtain rfl := hix (by decide)
    obtain rfl := (CtL.head_parts hh).2.2.2 (.inl rfl)
    have hfo := hfe _ (right_shape hrv).1
    have hib := ih b hbo (by omega)
    have hie := ih e heo (by omega)
    have hbl := foldL_len hbo (by omega)
    have hel := foldL_len heo (by omega)
    have hdS : foldS (d + 1) (.mk 3 0 CtL.e0 (.mk vk vv vks) 0 b e) = foldC 3 0 CtL.e0 (foldE 5 (.mk vk vv vks)) 0 (foldL (foldS d) b) (foldL (foldS d) e) := by simp [foldS, foldV]
    rw [hdS] at hTi
    generalize foldE 5 (.mk vk vv vks) = E at *
    generalize foldL (foldS d) b = B1 at *
    generalize foldL (foldS d) e = B2 at *
    have hc1 := stC_len B1
    have hc2 := stC_len B2
    obtain ⟨ek, ev, ez⟩ := E
    have hcp := copyE CtL.e0 CtL.FE_e0
    simp only [Ex.cells, Ex.cellsL, CtL.e0] at hfo hx hcp
    by_cases hek : ek = 1
    ·subst hek
     by_cases hev : ev = 0
     ·subst hev
      rw [show foldC 3 0 CtL.e0 (.mk 1 0 ez) 0 B1 B2 = B2 from rfl] at hTi
      refine drvL Tryz.func54 ?_
      simp only [go_sem, hx, hlt, hclT, List.length_append, stC_cells]
      iterate 22 ((try (refine drvZ Tryz.func54 ?_; simp only [go_sem, hx, hlt, hclT, List.length_append, stC_cells])); ((with_reducible and_intros) <;> try exact sd); (try first | refine XK.p hcp ok120 ?_ | refine XK.gp hcp ok120 ?_ | refine XK.p hfo ok121 ?_ | refine XK.gp hfo ok121 ?_ | refine XK.p hib ok54 ?_ | refine XK.gp hib ok54 ?_ | refine XK.p hie ok54 ?_ | refine XK.gp hie ok54 ?_))
      refine again (i + 1) (fun j => if j = 67 then some 12160 else some j) [] _ hlt (by omega) ?_
      rw [hTi]
      simp only [go_sem, TmOK, DM, DMs, CM, CMs, forall_eq, exists_eq_left, Mq, HpOK, LowOK, stC_app2, List.length_append, List.append_nil, List.length_nil, Nat.add_zero]
      simp [stC_cells, stC_one, St1.cells, St1.cellsL, Ex.cells, Ex.cellsL, CtL.e0, CMs_st]
      try exact CMs.app (CMs.kf (stC_kf T)) (by simp [CMs, CM, CMs_st, CtL.e0, St1.cells, St1.cellsL, Ex.cells, Ex.cellsL])
      try exact CMs.app (CMs.kf (stC_kf T)) (CMs.kf (stC_kf _))
     ·have g1 : (ev != 0) = true := by simp [hev]
      rw [show foldC 3 0 CtL.e0 (.mk 1 ev ez) 0 B1 B2 = B1 by simp [foldC, isC, Ex.kind, Ex.value, hev]] at hTi
      refine drvL Tryz.func54 ?_
      simp only [go_sem, hx, hlt, hclT, List.length_append, g1, hev, stC_cells]
      iterate 22 ((try (refine drvZ Tryz.func54 ?_; simp only [go_sem, hx, hlt, hclT, List.length_append, g1, hev, stC_cells])); ((with_reducible and_intros) <;> try exact sd); (try first | refine XK.p hcp ok120 ?_ | refine XK.gp hcp ok120 ?_ | refine XK.p hfo ok121 ?_ | refine XK.gp hfo ok121 ?_ | refine XK.p hib ok54 ?_ | refine XK.gp hib ok54 ?_ | refine XK.p hie ok54 ?_ | refine XK.gp hie ok54 ?_))
      refine again (i + 1) (fun j => if j = 67 then some 11520 else some j) [] _ hlt (by omega) ?_
      rw [hTi]
      simp only [go_sem, TmOK, DM, DMs, CM, CMs, forall_eq, exists_eq_left, Mq, HpOK, LowOK, stC_app2, List.length_append, List.append_nil, List.length_nil, Nat.add_zero]
      simp [stC_cells, stC_one, St1.cells, St1.cellsL, Ex.cells, Ex.cellsL, CtL.e0, CMs_st]
      try exact CMs.app (CMs.kf (stC_kf T)) (by simp [CMs, CM, CMs_st, CtL.e0, St1.cells, St1.cellsL, Ex.cells, Ex.cellsL])
      try exact CMs.app (CMs.kf (stC_kf T)) (CMs.kf (stC_kf _))
    ·have g1 : (ek == 1) = false := by simp [hek]
     rw [show foldC 3 0 CtL.e0 (.mk ek ev ez) 0 B1 B2 = [.mk 3 0 CtL.e0 (.mk ek ev ez) 0 B1 B2] by simp [foldC, isC, Ex.kind, hek]] at hTi
     refine drvL Tryz.func54 ?_
     simp only [go_sem, hx, hlt, hclT, List.length_append, g1, hek]
     iterate 22 ((try (refine drvZ Tryz.func54 ?_; simp only [go_sem, hx, hlt, hclT, List.length_append, g1, hek])); ((with_reducible and_intros) <;> try exact sd); (try first | refine XK.p hcp ok120 ?_ | refine XK.gp hcp ok120 ?_ | refine XK.p hfo ok121 ?_ | refine XK.gp hfo ok121 ?_ | refine XK.p hib ok54 ?_ | refine XK.gp hib ok54 ?_ | refine XK.p hie ok54 ?_ | refine XK.gp hie ok54 ?_))
     refine again (i + 1) (fun j => if j = 67 then some 13376 else some j) [] _ hlt (by omega) ?_
     rw [hTi]
     simp only [go_sem, TmOK, DM, DMs, CM, CMs, forall_eq, exists_eq_left, Mq, HpOK, LowOK, stC_app2, List.length_append, List.append_nil, List.length_nil, Nat.add_zero]
     simp [stC_cells, stC_one, St1.cells, St1.cellsL, Ex.cells, Ex.cellsL, CtL.e0, CMs_st]
     try exact CMs.app (CMs.kf (stC_kf T)) (by simp [CMs, CM, CMs_st, CtL.e0, St1.cells, St1.cellsL, Ex.cells, Ex.cellsL])
     try exact CMs.app (CMs.kf (stC_kf T)) (CMs.kf (stC_kf _))
   ·subst hk
    obtain ⟨rfl, hix, hv0⟩ := (CtL.head_parts hh).1 rfl
    subst hix
    obtain ⟨rfl, rfl, rfl⟩ : vk = 0 ∧ vv = 0 ∧ vks = [] := by simpa [CtL.e0] using hv0
    obtain rfl := (CtL.head_parts hh).2.2.2 (.inr rfl)
    have hib := ih b hbo (by omega)
    have hie := ih [] (by simp) (by simp [lsize])
    rw [show foldL (foldS d) [] = [] from rfl] at hie
    have hbl := foldL_len hbo (by omega)
    have hdS : foldS (d + 1) (.mk 4 0 CtL.e0 (.mk 0 0 []) c b []) = foldC 4 0 CtL.e0 (.mk 0 0 []) c (foldL (foldS d) b) [] := by simp [foldS, foldV, foldL]
    rw [hdS] at hTi
    generalize foldL (foldS d) b = B1 at *
    have hc1 := stC_len B1
    have hfo := hib
    have hcp := copyE CtL.e0 CtL.FE_e0
    simp only [Ex.cells, Ex.cellsL, CtL.e0] at hx hcp
    by_cases hcc : c = 1
    ·subst hcc
     rw [show foldC 4 0 CtL.e0 (.mk 0 0 []) 1 B1 [] = B1 from rfl] at hTi
     refine drvL Tryz.func54 ?_
     simp only [go_sem, hx, hlt, hclT, List.length_append, stC_cells]
     iterate 22 ((try (refine drvZ Tryz.func54 ?_; simp only [go_sem, hx, hlt, hclT, List.length_append, stC_cells])); ((with_reducible and_intros) <;> try exact sd); (try first | refine XK.p hcp ok120 ?_ | refine XK.gp hcp ok120 ?_ | refine XK.p hfo ok121 ?_ | refine XK.gp hfo ok121 ?_ | refine XK.p hib ok54 ?_ | refine XK.gp hib ok54 ?_ | refine XK.p hie ok54 ?_ | refine XK.gp hie ok54 ?_))
     refine again (i + 1) (fun j => if j = 67 then some 12416 else some j) [] _ hlt (by omega) ?_
     rw [hTi]
     simp only [go_sem, TmOK, DM, DMs, CM, CMs, forall_eq, exists_eq_left, Mq, HpOK, LowOK, stC_app2, List.length_append, List.append_nil, List.length_nil, Nat.add_zero]
     simp [stC_cells, stC_one, St1.cells, St1.cellsL, Ex.cells, Ex.cellsL, CtL.e0, CMs_st]
     try exact CMs.app (CMs.kf (stC_kf T)) (by simp [CMs, CM, CMs_st, CtL.e0, St1.cells, St1.cellsL, Ex.cells, Ex.cellsL])
     try exact CMs.app (CMs.kf (stC_kf T)) (CMs.kf (stC_kf _))
    ·have g1 : (c == 1) = false := by simp [hcc]
     cases B1 with
     | nil =>
      rw [show foldC 4 0 CtL.e0 (.mk 0 0 []) c [] [] = [] by simp [foldC, hcc]] at hTi
      refine drvL Tryz.func54 ?_
      simp only [go_sem, hx, hlt, hclT, List.length_append, g1, hcc, Int.natCast_zero, St1.cellsL, beq_self_eq_true]
      iterate 22 ((try (refine drvZ Tryz.func54 ?_; simp only [go_sem, hx, hlt, hclT, List.length_append, g1, hcc, Int.natCast_zero, St1.cellsL, beq_self_eq_true])); ((with_reducible and_intros) <;> try exact sd); (try first | refine XK.p hcp ok120 ?_ | refine XK.gp hcp ok120 ?_ | refine XK.p hfo ok121 ?_ | refine XK.gp hfo ok121 ?_ | refine XK.p hib ok54 ?_ | refine XK.gp hib ok54 ?_ | refine XK.p hie ok54 ?_ | refine XK.gp hie ok54 ?_))
      refine again (i + 1) some [] _ hlt (by omega) ?_
      rw [hTi]
      simp only [go_sem, TmOK, DM, DMs, CM, CMs, forall_eq, exists_eq_left, Mq, HpOK, LowOK, stC_app2, List.length_append, List.append_nil, List.length_nil, Nat.add_zero]
      simp [stC_cells, stC_one, St1.cells, St1.cellsL, Ex.cells, Ex.cellsL, CtL.e0, CMs_st]
      try exact CMs.app (CMs.kf (stC_kf T)) (by simp [CMs, CM, CMs_st, CtL.e0, St1.cells, St1.cellsL, Ex.cells, Ex.cellsL])
      try exact CMs.app (CMs.kf (stC_kf T)) (CMs.kf (stC_kf _))
     | cons s0 r0 =>
      rw [show foldC 4 0 CtL.e0 (.mk 0 0 []) c (s0 :: r0) [] = [.mk 4 0 CtL.e0 (.mk 0 0 []) c (s0 :: r0) []] by simp [foldC, hcc]] at hTi
      have hne : ((((s0 :: r0).length : Nat) : Int) == 0) = false := by simp; omega
      have hne2 : ((((s0 :: r0).length : Nat) : Int) = 0) = False := eq_false (by simp; omega)
      generalize s0 :: r0 = B1 at *
      refine drvL Tryz.func54 ?_
      simp only [go_sem, hx, hlt, hclT, List.length_append, g1, hcc, hne, hne2]
      iterate 22 ((try (refine drvZ Tryz.func54 ?_; simp only [go_sem, hx, hlt, hclT, List.length_append, g1, hcc, hne, hne2])); ((with_reducible and_intros) <;> try exact sd); (try first | refine XK.p hcp ok120 ?_ | refine XK.gp hcp ok120 ?_ | refine XK.p hfo ok121 ?_ | refine XK.gp hfo ok121 ?_ | refine XK.p hib ok54 ?_ | refine XK.gp hib ok54 ?_ | refine XK.p hie ok54 ?_ | refine XK.gp hie ok54 ?_))
      refine again (i + 1) (fun j => if j = 67 then some 13056 else some j) [] _ hlt (by omega) ?_
      rw [hTi]
      simp only [go_sem, TmOK, DM, DMs, CM, CMs, forall_eq, exists_eq_left, Mq, HpOK, LowOK, stC_app2, List.length_append, List.append_nil, List.length_nil, Nat.add_zero]
      simp [stC_cells, stC_one, St1.cells, St1.cellsL, Ex.cells, Ex.cellsL, CtL.e0, CMs_st]
      try exact CMs.app (CMs.kf (stC_kf T)) (by simp [CMs, CM, CMs_st, CtL.e0, St1.cells, St1.cellsL, Ex.cells, Ex.cellsL])
      try exact CMs.app (CMs.kf (stC_kf T)) (CMs.kf (stC_kf _))
  ·have hn2 : ¬ i < l.length := by omega
   obtain rfl : i = l.length := by omega
   clear hT hTl again
   rw [List.take_length]
   generalize foldL (foldS d) l = T at *
   refine drvL Tryz.func54 ?_
   simp only [go_sem, hn2]
   iterate 3 ((try (refine drvZ Tryz.func54 ?_; simp only [go_sem, hn2])); ((with_reducible and_intros) <;> try exact sd))
   refine RetOb.ofQ (fun _ => none) [67] (.c (.isl 11 (St1.cellsL T))) [] ?_ (by rw [← hR]; exact ⟨rfl, rfl⟩) (by simp)
   have g1 := stC_cells T
   have g2 : ∀ x ∈ St1.cellsL T, x.length = 11 := fun x hx => by rw [St1.cellsL_eq] at hx; obtain ⟨e, _, rfl⟩ := List.mem_map.1 hx; exact St1.cells_len e
   have g3 : ∀ x ∈ St1.cellsL T, ∀ c ∈ x, kf c = true := fun x hx => by rw [St1.cellsL_eq] at hx; obtain ⟨e, _, rfl⟩ := List.mem_map.1 hx; exact st_kf e
   simp [enumL, hOf, DM, CM, CMs, HpOK, LowOK, upd, g1, St1.cellsL_length]
   exact ⟨g2, g3⟩
 ·simp only [go_sem, TmOK, DM, DMs, CM, CMs, forall_eq, exists_eq_left, Mq, HpOK, LowOK]
  simp [foldL, stC, CMs]
theorem foldBl {p : Pg} : ∀ d, BlkG p d
 | 0 => foldBl1 0 fun _ h => by omega
 | d + 1 => foldBl1 (d + 1) fun d' h => by
  obtain rfl : d = d' := by omega
  exact foldBl d
inductive SmT : St1 → Prop
 | mk (k t : Int) (ix v : Ex) (c : Int) (b e : List St1) (h1 : SmE ix) (h2 : SmE v) (h3 : b.length ≤ 1000000) (h4 : e.length ≤ 1000000) (h5 : ∀ x ∈ b, SmT x) (h6 : ∀ x ∈ e, SmT x) : SmT (.mk k t ix v c b e)
theorem SmT_ok {p : Pg} : ∀ (d : Nat) (s : St1), stmtOK p d s = true → tsize d s ≤ 1000000 → SmT s
 | 0, s, h, _ => by simp [stmtOK] at h
 | d + 1, .mk k t ix v c b e, h, hts => by
  obtain ⟨hh, hb, he⟩ := stmtOK_succ h
  obtain ⟨s1, s2⟩ := shapeV h
  obtain ⟨q1, q2, q3, q4⟩ := CtL.head_parts hh
  have hts : 1 + lsize d b + lsize d e ≤ 1000000 := hts
  have hlen : ∀ l : List St1, (∀ s ∈ l, stmtOK p d s = true) → l.length ≤ lsize d l := fun l hl => len_le_sum _ l fun s hs => stmtOK_pos (hl s hs)
  have hb2 := hlen b hb
  have he2 := hlen e he
  refine .mk k t ix v c b e ?_ ?_ (by omega) (by omega) (fun x hx => ?_) fun x hx => ?_
  ·by_cases hk : k = 2
   ·exact SmE_shape 5 ix (s2 hk)
   ·by_cases hk4 : k = 4
    ·rw [(q1 hk4).2.1]; exact SmE0
    ·rw [(q2 hk4).2 hk]; exact SmE0
  ·by_cases hk4 : k = 4
   ·rw [(q1 hk4).2.2]; exact SmE0
   ·exact SmE_shape 5 v (s1 hk4)
  ·exact SmT_ok d x (hb x hx) (Nat.le_trans (mem_le_lsize hx) (by omega))
  ·exact SmT_ok d x (he x hx) (Nat.le_trans (mem_le_lsize hx) (by omega))
theorem sownT (s : St1) (h : SmT s) : DC Tryz.prog 179 [.agg s.cells] [] (fun r h => r = .agg s.cells ∧ h = []) := by
 induction h with
 | mk k t ix v c b e h1 h2 h3 h4 h5 h6 i5 i6 => exact sownSO k t ix v c b e h1 h2 (sownLS b h3 i5) (sownLS e h4 i6)
theorem sownPT (p : Pg) (hv : p.vars.length ≤ 1000000) (ha : p.arrays.length ≤ 1000000) (hb : p.body.length ≤ 1000000) (hs : ∀ s ∈ p.body, SmT s) : DC Tryz.prog 52 [.agg p.cells] [] (fun r h => r = .agg p.cells ∧ h = []) := by
 have hmx := mx_eq
 have hbd := sownLS p.body hb fun s h => sownT s (hs s h)
 obtain ⟨vs, ar, bd⟩ := p
 simp only at hv ha hbd
 have hgv := flat_I vs
 have hga := flat_I ar
 refine dcZ Tryz.func52 ?_
 simp only [go_sem, flat_I']
 iterate 8 ((try (refine drvZ Tryz.func52 ?_; simp only [go_sem, flat_I'])); ((with_reducible and_intros) <;> try exact sd); (try first | refine XK.p hbd ok116 ?_ | refine XK.gp hbd ok116 ?_))
 refine RetOb.ofQ (fun j => none) [320, 704] (.agg [.isl 1 (vs.map fun n => [I64 n]), .isl 1 (ar.map fun n => [I64 n]), .isl 11 (St1.cellsL bd)]) [] ?_ ⟨rfl, rfl⟩ (by simp)
 simp [enumL, hOf, DM, CM, CMs, HpOK, LowOK, upd, hgv, hga, kf, List.take_of_length_le]
def foldPR (p : Pg) : Pg × Bool := if progOK p = true then (foldP p, true) else (⟨[], [], []⟩, false)
theorem foldProgI (p : Pg) (hv : p.vars.length ≤ 1000000) (ha : p.arrays.length ≤ 1000000) : DC Tryz.prog 12 [.agg p.cells] [] (fun r h => r = .tup [.agg (foldPR p).1.cells, DB (foldPR p).2] ∧ h = []) := by
 have hmx := mx_eq
 have hpv := programValidI p (by omega) (by omega)
 generalize hR : (fun (r : D) (h : List (Option (List C))) => r = .tup [.agg (foldPR p).1.cells, DB (foldPR p).2] ∧ h = []) = R
 cases hok : progOK p with
 | false =>
  rw [show foldPR p = (⟨[], [], []⟩, false) by simp [foldPR, hok]] at hR
  rw [hok] at hpv
  obtain ⟨vs, ar, bd⟩ := p
  refine dcZ Tryz.func12 ?_
  simp only [go_sem]
  iterate 5 ((try (refine drvZ Tryz.func12 ?_; simp only [go_sem])); ((with_reducible and_intros) <;> try exact sd); (try first | refine XK.p hpv ok16 ?_ | refine XK.gp hpv ok16 ?_))
  exact RetOb.pg0 (by rw [← hR]; exact ⟨rfl, rfl⟩)
 | true =>
  rw [show foldPR p = (foldP p, true) by simp [foldPR, hok]] at hR
  rw [hok] at hpv
  have hbo := body_of hok
  have how := ownP p p hv ha hbo.1 (by omega)
  have hfs := foldSt (p := p) 5 p.body hbo.1 (by omega)
  have hfo := CtL.foldL_ok p.body fun s hs => CtL.fold_stmt 5 s (hbo.1 s hs)
  have hos := ownStmts p 5 (foldL (foldS 5) p.body) hfo.1 (by omega)
  rw [show foldP p = ⟨p.vars, p.arrays, foldL (foldS 5) p.body⟩ from rfl] at hR
  generalize foldL (foldS 5) p.body = B at *
  obtain ⟨vs, ar, bd⟩ := p
  refine dcZ Tryz.func12 ?_
  simp only [go_sem]
  iterate 9 ((try (refine drvZ Tryz.func12 ?_; simp only [go_sem])); ((with_reducible and_intros) <;> try exact sd); (try first | refine XK.p hpv ok16 ?_ | refine XK.gp hpv ok16 ?_ | refine XK.p how ok49 ?_ | refine XK.gp how ok49 ?_ | refine XK.p hfs ok51 ?_ | refine XK.gp hfs ok51 ?_ | refine XK.p hos ok50 ?_ | refine XK.gp hos ok50 ?_))
  exact RetOb.pgP (by rw [← hR]; exact ⟨rfl, rfl⟩)
theorem foldProgS (p : Pg) (hv : p.vars.length ≤ 1000000) (ha : p.arrays.length ≤ 1000000) (hb : p.body.length ≤ 1000000) (hs : ∀ s ∈ p.body, SmT s) (hz : lsize 5 p.body ≤ 1099511627776) : DC Tryz.prog 13 [.agg p.cells] [] (fun r h => r = .tup [.agg (foldPR p).1.cells, DB (foldPR p).2] ∧ h = []) := by
 have hmx := mx_eq
 have hpv := programValidS p (by omega) (by omega) hz
 have how := sownPT p hv ha hb hs
 generalize hR : (fun (r : D) (h : List (Option (List C))) => r = .tup [.agg (foldPR p).1.cells, DB (foldPR p).2] ∧ h = []) = R
 cases hok : progOK p with
 | false =>
  rw [show foldPR p = (⟨[], [], []⟩, false) by simp [foldPR, hok]] at hR
  rw [hok] at hpv
  obtain ⟨vs, ar, bd⟩ := p
  refine dcZ Tryz.func13 ?_
  simp only [go_sem]
  iterate 6 ((try (refine drvZ Tryz.func13 ?_; simp only [go_sem])); ((with_reducible and_intros) <;> try exact sd); (try first | refine XK.p how ok52 ?_ | refine XK.gp how ok52 ?_ | refine XK.p hpv ok53 ?_ | refine XK.gp hpv ok53 ?_))
  exact RetOb.pg0 (by rw [← hR]; exact ⟨rfl, rfl⟩)
 | true =>
  rw [show foldPR p = (foldP p, true) by simp [foldPR, hok]] at hR
  rw [hok] at hpv
  have hbo := body_of hok
  have hfs := foldBl (p := p) 5 p.body hbo.1 (by omega)
  rw [show foldP p = ⟨p.vars, p.arrays, foldL (foldS 5) p.body⟩ from rfl] at hR
  generalize foldL (foldS 5) p.body = B at *
  obtain ⟨vs, ar, bd⟩ := p
  simp only at hv ha
  have hgv := flat_I vs
  have hga := flat_I ar
  refine dcZ Tryz.func13 ?_
  simp only [go_sem]
  iterate 9 ((try (refine drvZ Tryz.func13 ?_; simp only [go_sem, flat_I'])); ((with_reducible and_intros) <;> try exact sd); (try first | refine XK.p how ok52 ?_ | refine XK.gp how ok52 ?_ | refine XK.p hpv ok53 ?_ | refine XK.gp hpv ok53 ?_ | refine XK.p hfs ok54 ?_ | refine XK.gp hfs ok54 ?_))
  refine RetOb.ofQ (fun j => none) [768, 1024] (.tup [.agg [.isl 1 (vs.map fun n => [I64 n]), .isl 1 (ar.map fun n => [I64 n]), .isl 11 (St1.cellsL B)], DB true]) [] ?_ (by rw [← hR]; exact ⟨rfl, rfl⟩) (by simp)
  simp [enumL, hOf, DM, DMs, CM, CMs, HpOK, LowOK, upd, hgv, hga, kf, List.take_of_length_le]
end Go.Proofs.YtjjjidcbokbhpaaGreat.CtD
namespace Go.Proofs.YtjjjidcbokbhpaaGreat.CtD
open Go Go.CT CtF CtR
open CtL (cE)
end Go.Proofs.YtjjjidcbokbhpaaGreat.CtD
namespace Go.Proofs.YtjjjidcbokbhpaaGreat.CtD
open Go Go.CT CtF CtR
open CtL (foldP prj)
theorem fold_runP {p : Pg} (h : progOK p = true) (m : Mm) : (runP (foldP p) m).1 = (runP p m).1 ∧ prj (runP (foldP p) m).2.1 = prj (runP p m).2.1 ∧ (runP (foldP p) m).2.2 = (runP p m).2.2 := by
 have hq := CtL.fold_valid h
 cases hm : memOK p.vars p.arrays m with
 | true =>
  have hm' : memOK (foldP p).vars (foldP p).arrays m = true := hm
  have := CtL.fold_prog h hm
  rw [runP_of h hm, runP_of hq hm']
  exact ⟨this.1, this.2, rfl⟩
 | false =>
  have hm' : memOK (foldP p).vars (foldP p).arrays m = false := hm
  simp [runP, hm, hm']
end Go.Proofs.YtjjjidcbokbhpaaGreat.CtD
namespace Go.Proofs.YtjjjidcbokbhpaaGreat.CtD
open Go Go.CT CtF CtR
open CtL (linQ linP extM resM extOK extP resP foldP)
theorem lawLF (bs : List Int) (hb : Fits .u8 bs) (hl : bs.length ≤ mx) : DC Tryz.prog 7 [bytesD bs] [] (fun d h => d = DB true ∧ h = []) := by
 have hmx := mx_eq
 have hdr := drawTypedRuns bs hb hl 0 1 (by decide)
 unfold bytesD
 unfold bytesD at hdr
 have ret : ∀ hp : Hp, RetOb 0 (fun d h => d = DB true ∧ h = []) (DB true) hp := fun hp => RetOb.plain (d := DB true) ⟨rfl, rfl⟩ rfl
 generalize hRR : (fun (d : D) (h : List (Option (List C))) => d = DB true ∧ h = []) = R at ret ⊢
 by_cases hbig : 1048576 < bs.length
 ·have hz : ((1048576 : Int) < (bs.length : Int)) = True := eq_true (by omega)
  refine dcZ Tryz.func7 ?_
  simp only [go_sem, hz]
  iterate 3 ((try (refine drvZ Tryz.func7 ?_; simp only [go_sem, hz])); ((with_reducible and_intros) <;> try exact sd))
  exact ret _
 have hz : ((1048576 : Int) < (bs.length : Int)) = False := eq_false (by omega)
 refine dcZ Tryz.func7 ?_
 simp only [go_sem, hz]
 iterate 3 ((try (refine drvZ Tryz.func7 ?_; simp only [go_sem, hz])); ((with_reducible and_intros) <;> try exact sd))
 refine XK.callG [] hdr ok29 (fun i' x h => by simp at h) (hbT ()) (fun d h' ⟨_, _, _, _, _, _, _, _, e⟩ => by subst e; simp) ?_
 rintro _ _ ⟨p, m, m', rfl, hp, hm, hm', hlo, rfl⟩ _
 have hok := hp.ok
 have hln := prog_len hok
 have hli := linearizeI p hok
 have hls := linearizeS p hok
 have hmo := memOK_of hm
 have hmo' := memOK_of hm'
 have hlp : linP p = if fineP flowR p = true ∧ progOK (linQ p) = true then (linQ p, true) else (⟨[], [], []⟩, false) := rfl
 by_cases hc : fineP flowR p = true ∧ progOK (linQ p) = true
 case neg =>
  rw [if_neg hc] at hlp
  rw [hlp] at hli hls
  have hps := programSame ⟨[], [], []⟩ (by simp) (by simp) (by simp) (by simp)
  have hfi := foldProgI ⟨[], [], []⟩ (by simp) (by simp)
  have hfs := foldProgS ⟨[], [], []⟩ (by simp) (by simp) (by simp) (by simp) (by simp [lsize])
  rw [show foldPR ⟨[], [], []⟩ = (⟨[], [], []⟩, false) from if_neg (by decide)] at hfi hfs
  obtain ⟨vs, ar, bd⟩ := p
  obtain ⟨va, arr⟩ := m
  obtain ⟨va', arr'⟩ := m'
  clear hdr
  iterate 16 ((try (refine drvZ Tryz.func7 ?_; simp only [go_sem, Mm.cells, bne_self_eq_false, List.map_nil])); ((with_reducible and_intros) <;> try exact sd); (try first | refine XK.p hli ok30 ?_ | refine XK.gp hli ok30 ?_ | refine XK.p hls ok31 ?_ | refine XK.gp hls ok31 ?_ | refine XK.p hfi ok12 ?_ | refine XK.gp hfi ok12 ?_ | refine XK.p hfs ok13 ?_ | refine XK.gp hfs ok13 ?_ | refine XK.p hps ok14 ?_ | refine XK.gp hps ok14 ?_ | refine XK.gs (DB false) ?_))
  exact ret _
 obtain ⟨hf, hq⟩ := hc
 rw [if_pos ⟨hf, hq⟩] at hlp
 rw [hlp] at hli hls
 have hqz := CtL.linQ_sz hok
 have hlq := prog_len hq
 have hqf := (CtL.prog_FS hq).1
 have he := CtL.linQ_ext hok hq
 have hea := extendI p (linQ p) m (by omega) (by omega) (by omega) (by omega) he hmo
 have hra := runProgI (linQ p) (extM (linQ p).vars.length m) (by omega) (by omega)
 have hsa := runP_sm (linQ p) (extM (linQ p).vars.length m)
 have hpa := (CtL.lin_run hf hq hmo).2.2.1
 have hct0 := CtL.lin_ct hf hq
 have hfz := CtL.fold_strict hct0.1 hct0.2
 have hqv := CtL.fold_valid hq
 have hlf := prog_len hqv
 have hff := (CtL.prog_FS hqv).1
 have hps := programSame (foldP (linQ p)) (by omega) (by omega) (by omega) (sameBody hqv)
 have hfi := foldProgI (linQ p) (by omega) (by omega)
 have hfs := foldProgS (linQ p) (by omega) (by omega) (by omega) (fun s hs => SmT_ok 5 s ((body_of hq).1 s hs) (by have := mem_le_lsize (d := 5) hs; have := (body_of hq).2; omega)) (by have := (body_of hq).2; omega)
 rw [show foldPR (linQ p) = (foldP (linQ p), true) by simp [foldPR, hq]] at hfi hfs
 have hrb := runProgI (foldP (linQ p)) (extM (linQ p).vars.length m) (by omega) (by omega)
 have hfr := fold_runP hq (extM (linQ p).vars.length m)
 have hct := checkCTI (foldP (linQ p)) (by omega) (by omega)
 rw [hpa] at hra hsa hfr
 simp only at hra hsa
 generalize strictR (foldP (linQ p)) = x at *
 obtain ⟨code, at_⟩ := x
 simp only at hfz
 subst hfz
 generalize runP (foldP (linQ p)) (extM (linQ p).vars.length m) = X2 at *
 generalize runL 5 (extM (linQ p).vars.length m) (linQ p).body = r1 at *
 generalize extM (linQ p).vars.length m = ma at *
 clear hlp hpa hct0
 generalize foldP (linQ p) = f at *
 generalize linQ p = q at *
 obtain ⟨vs, ar, bd⟩ := p
 obtain ⟨va, arr⟩ := m
 obtain ⟨va', arr'⟩ := m'
 obtain ⟨qv, qa, qb⟩ := q
 obtain ⟨fv, fa, fb⟩ := f
 obtain ⟨xa, xr⟩ := ma
 obtain ⟨⟨u1, u2⟩, t1⟩ := r1
 obtain ⟨⟨w1, w2⟩, t2, b2⟩ := X2
 obtain ⟨e1, e2, e3⟩ := hfr
 simp only at e1 e2 e3 hsa hra hrb
 cases e1
 subst e3
 have hms := memorySame ⟨u1, u2⟩ ⟨u1, u2⟩ (by simp only; omega) (by simp only; omega) (fun a h => by have := hsa.2.2.1 a h; omega)
 rw [memSame_refl] at hms
 clear hdr
 iterate 32 ((try (refine drvZ Tryz.func7 ?_; simp only [go_sem, Mm.cells, trD, bne_self_eq_false, beq_self_eq_true])); ((with_reducible and_intros) <;> try exact sd); (try first | refine XK.p hli ok30 ?_ | refine XK.gp hli ok30 ?_ | refine XK.p hls ok31 ?_ | refine XK.gp hls ok31 ?_ | refine XK.p hfi ok12 ?_ | refine XK.gp hfi ok12 ?_ | refine XK.p hfs ok13 ?_ | refine XK.gp hfs ok13 ?_ | refine XK.p hps ok14 ?_ | refine XK.gp hps ok14 ?_ | refine XK.p hea ok32 ?_ | refine XK.gp hea ok32 ?_ | refine XK.p hra ok15 ?_ | refine XK.gp hra ok15 ?_ | refine XK.p hrb ok15 ?_ | refine XK.gp hrb ok15 ?_ | refine XK.p hct ok33 ?_ | refine XK.gp hct ok33 ?_ | refine XK.p hms ok17 ?_ | refine XK.gp hms ok17 ?_))
 exact ret _
end Go.Proofs.YtjjjidcbokbhpaaGreat.CtD
