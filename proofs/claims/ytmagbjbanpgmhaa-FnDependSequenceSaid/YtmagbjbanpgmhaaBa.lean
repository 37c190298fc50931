/- Contracts of functions of the program, one behind the other, as plain data: what each call returns and which blocks it leaves. -/
import Derived.Test.YtmagbjbanpgmhaaChecked
import Derived.KernelRfl
import Derived.Test.YtmagbjbanpgmhaaAj
import Derived.Test.YtmagbjbanpgmhaaFacts
import Derived.Test.YtmagbjbanpgmhaaAi
import Derived.Test.YtmagbjbanpgmhaaAk
import Derived.Test.YtmagbjbanpgmhaaAn
import Derived.Test.YtmagbjbanpgmhaaAo
import Derived.Test.YtmagbjbanpgmhaaAq
import Derived.Test.YtmagbjbanpgmhaaAr
import Derived.Test.YtmagbjbanpgmhaaAl
import Derived.Test.YtmagbjbanpgmhaaAm
import Derived.Test.YtmagbjbanpgmhaaAs
set_option linter.unusedVariables false
set_option linter.unusedSimpArgs false
set_option maxHeartbeats 16000000
set_option maxRecDepth 100000
namespace Go.Proofs.Ytmagbjbanpgmhaa.CtF
open Go Go.CT
theorem ok3 : fnOK Try.prog 3 = true := by kernel_rfl
theorem ok4 : fnOK Try.prog 4 = true := by kernel_rfl
theorem ok9 : fnOK Try.prog 9 = true := by kernel_rfl
theorem ok13 : fnOK Try.prog 13 = true := by kernel_rfl
theorem ok30 : fnOK Try.prog 30 = true := by kernel_rfl
theorem ok39 : fnOK Try.prog 39 = true := by kernel_rfl
theorem ok40 : fnOK Try.prog 40 = true := by kernel_rfl
theorem ok51 : fnOK Try.prog 51 = true := by kernel_rfl
theorem ok71 : fnOK Try.prog 71 = true := by kernel_rfl
theorem ok80 : fnOK Try.prog 80 = true := by kernel_rfl
theorem ok81 : fnOK Try.prog 81 = true := by kernel_rfl
theorem ok103 : fnOK Try.prog 103 = true := by kernel_rfl
theorem ok120 : fnOK Try.prog 120 = true := by kernel_rfl
attribute [go_sem] Try.f3 Try.f4 Try.f9 Try.f13 Try.f30 Try.f39 Try.f40 Try.f51 Try.f71 Try.f80 Try.f81 Try.f103 Try.f120
end Go.Proofs.Ytmagbjbanpgmhaa.CtF

namespace Go.Proofs.Ytmagbjbanpgmhaa.CtR
open Go Go.CT CtF
theorem hhp4 {hp : Hp} {r : Nat → Nat} {k0 k1 k2 k3 : Nat} {h0 h1 h2 h3 : Option (List C)} (e0 : hp k0 = some (h0.map (renCs r))) (e1 : hp k1 = some (h1.map (renCs r))) (e2 : hp k2 = some (h2.map (renCs r))) (e3 : hp k3 = some (h3.map (renCs r))) :
    ∀ i' x, [h0, h1, h2, h3][i']? = some x → hp ([k0, k1, k2, k3].getD i' 0) = some (x.map (renCs r)) := by
  intro i' x hx
  match i', hx with
  | 0, hx => simp only [List.getElem?_cons_zero, Option.some.injEq] at hx; subst hx; exact e0
  | 1, hx => simp only [List.getElem?_cons_succ, List.getElem?_cons_zero, Option.some.injEq] at hx; subst hx; exact e1
  | 2, hx => simp only [List.getElem?_cons_succ, List.getElem?_cons_zero, Option.some.injEq] at hx; subst hx; exact e2
  | 3, hx => simp only [List.getElem?_cons_succ, List.getElem?_cons_zero, Option.some.injEq] at hx; subst hx; exact e3
  | i' + 4, hx => simp at hx
end Go.Proofs.Ytmagbjbanpgmhaa.CtR

namespace Go.Proofs.Ytmagbjbanpgmhaa.CtD
open Go Go.CT CtF CtR
theorem l1Draw (bs : List Int) (n : Nat) (hb : Fits .u8 bs) (hl : bs.length ≤ 2000) (h1 : n + 4 ≤ 1099511627776) : DC Try.prog 81 [.c (.ptr 0 0)] [some (rdr bs n)]
    (fun d h => ∃ v : Int, d = DI .i64 v ∧ InK .i64 v ∧ rdL bs n 2 h) := by
  have hmx := mx_eq
  refine dc_of_go Try.func81 rfl (by simp) ?_
  refine drv_sound (n := 100) (rs := _) Try.func81 mo rfl none _ _ ?_
  simp (maxSteps := 9999999) only [go_sem, rdr]
  refine XK.callG [0] (pick bs n 12 hb hl (by omega) (by simp only [InK]; omega)) ok45 (hhp_one rfl) (hbT ()) (fun d h' ⟨v, _, _, e⟩ => by subst e; simp) ?_
  rintro d h' ⟨v, rfl, hv, rfl⟩ _
  refine drv_sound (n := 100) (rs := _) Try.func81 mo rfl (some _) _ _ ?_
  simp (maxSteps := 9999999) only [go_sem, rdr]
  refine ⟨fun h0 => ?_, fun h0 => ?_⟩
  · refine ⟨by decide, ?_⟩
    refine XK.freeze 7 321 1 4 [[.v (.int .i64 (-1))], [.v (.int .i64 4)], [.v (.int .i64 9223372036854775807)], [.v (.int .i64 (-9223372036854775808))]] ?_ rfl
    refine XK.callG [0] (num bs (n + 1) [-1, 4, 9223372036854775807, -9223372036854775808] hb hl (by omega) (by decide) (by decide)) ok72 (hhp_one rfl) (hbT ()) (fun d h' ⟨v, _, _, e⟩ => by subst e; simp) ?_
    rintro d h' ⟨v2, rfl, hv2, rfl⟩ _
    refine drv_sound (n := 100) (rs := _) Try.func81 mo rfl (some _) _ _ ?_
    simp (maxSteps := 9999999) only [go_sem, rdr]
    refine RetOb.keep1 (d := DI .i64 v2) (cs := rdr bs ((n + 2 : Nat) : Int)) ⟨v2, rfl, by simp at hv2; simp only [InK]; omega, n + 2, by omega, by omega, rfl⟩ rfl (rdr_kf _ _) rfl
  · refine XK.callG [0] (pick bs (n + 1) 4 hb hl (by omega) (by simp only [InK]; omega)) ok45 (hhp_one rfl) (hbT ()) (fun d h' ⟨v, _, _, e⟩ => by subst e; simp) ?_
    rintro d h' ⟨v2, rfl, hv2, rfl⟩ _
    refine drv_sound (n := 100) (rs := _) Try.func81 mo rfl (some _) _ _ ?_
    simp (maxSteps := 9999999) only [go_sem, rdr]
    refine RetOb.keep1 (d := DI .i64 v2) (cs := rdr bs ((n + 2 : Nat) : Int)) ⟨v2, rfl, by simp only [InK]; omega, n + 2, by omega, by omega, rfl⟩ rfl (rdr_kf _ _) rfl
end Go.Proofs.Ytmagbjbanpgmhaa.CtD

namespace Go.Proofs.Ytmagbjbanpgmhaa.CtD
open Go Go.CT CtF CtR
theorem l2CopyExpr (e : Ex) (he : SmE e) : DC Try.prog 120 [.agg e.cells] [] (fun r h => r = .agg e.cells ∧ h = []) := by
  have hmx := mx_eq
  induction he with
  | mk k v ks hlen hall ih =>
    refine dcZ Try.func120 ?_
    simp (maxSteps := 9999999) only [go_sem]
    iterate 2 (try (refine drvZ Try.func120 ?_; simp (maxSteps := 9999999) only [go_sem]))
    refine Go.loopQ (fun i : Nat => [(1, .c (.ptr 0 0)), (2, .c (.ptr 64 0)), (3, .c (.ptr 66 0)), (4, DI .i64 i)])
      (fun i => [(0, some (Ex.cells (.mk k v ks))), (64, some [I64 0, I64 0, .v (.slice none 0 0)]), (66, some [I64 k, I64 v, .msl 67 3 0 i]), (67, some (exC (ks.take i)))])
      4096 (fun i => i ≤ ks.length) (fun i => ks.length - i) ?_ 0 (fun j => if j = 66 then some 448 else if j = 67 then none else some j) [] _ (Nat.zero_le _) ?_
    · intro i hi again
      rcases Nat.lt_or_ge i ks.length with hlt | hge
      · obtain ⟨⟨k', v', ks'⟩, hx⟩ : ∃ x, ks[i]? = some x := ⟨ks[i], by simp [hlt]⟩
        have hsx : ks.take (i + 1) = ks.take i ++ [.mk k' v' ks'] := by rw [List.take_add_one, hx]; rfl
        have hel : (exC (ks.take i)).length = i * 3 := by rw [exC_len, List.length_take]; congr 1; omega
        refine drvL Try.func120 ?_
        simp (maxSteps := 9999999) only [go_sem, hx, hlt]
        (repeat' with_reducible apply And.intro) <;> (try first | omega | (simp only [InK]; omega) | (intro k e; cases e; rfl) | (intro hguard; exact ⟨hguard, by simp only [InK]; omega⟩) | kernel_rfl)
        iterate 2 (try (refine drvZ Try.func120 ?_; simp (maxSteps := 9999999) only [go_sem, hx, hlt]))
        (repeat' with_reducible apply And.intro) <;> (try first | omega | (simp only [InK]; omega) | (intro k e; cases e; rfl) | (intro hguard; exact ⟨hguard, by simp only [InK]; omega⟩) | kernel_rfl)
        refine XK.plain (ih _ (List.mem_of_getElem? hx)) ok120 ?_ (hbT ()) (fun _ => by kernel_rfl)
        iterate 3 (try (refine drvZ Try.func120 ?_; simp (maxSteps := 9999999) only [go_sem, hx, hlt]))
        (repeat' with_reducible apply And.intro) <;> (try first | omega | (simp only [InK]; omega) | (intro k e; cases e; rfl) | (intro hguard; exact ⟨hguard, by simp only [InK]; omega⟩) | kernel_rfl)
        iterate 2 (try (refine drvZ Try.func120 ?_; simp (maxSteps := 9999999) only [go_sem, hx, hlt]))
        (repeat' with_reducible apply And.intro) <;> (try first | omega | (simp only [InK]; omega) | (intro k e; cases e; rfl) | (intro hguard; exact ⟨hguard, by simp only [InK]; omega⟩) | kernel_rfl)
        refine again (i + 1) (fun j => if j = 67 then some 4992 else some j) [] _ hlt (by omega) ?_
        simp (maxSteps := 9999999) only [go_sem, TmOK, DM, DMs, CM, CMs, forall_eq, exists_eq_left, Mq, HpOK, LowOK, hsx, exC_snoc]
        simp
        exact CMs.kf (kf_app (exC_kf _) (by simp [kf]))
      · have hn : ¬ i < ks.length := by omega
        obtain rfl : i = ks.length := by omega
        refine drvL Try.func120 ?_
        simp (maxSteps := 9999999) only [go_sem, hn, List.take_length]
        iterate 2 (try (refine drvZ Try.func120 ?_; simp (maxSteps := 9999999) only [go_sem, hn, List.take_length]))
        refine RetOb.ofQ (fun j => none) [67] (.agg (Ex.cells (.mk k v ks))) [] ?_ ⟨rfl, rfl⟩ (by simp)
        have g1 : (Ex.cellsL ks).flatten = exC ks := by rw [Ex.cellsL_eq]; rfl
        have g2 : ∀ x ∈ Ex.cellsL ks, x.length = 3 := fun x hx => by rw [Ex.cellsL_eq] at hx; obtain ⟨e, _, rfl⟩ := List.mem_map.1 hx; exact Ex.cells_len e
        have g3 : ∀ x ∈ Ex.cellsL ks, ∀ c ∈ x, kf c = true := fun x hx => by rw [Ex.cellsL_eq] at hx; obtain ⟨e, _, rfl⟩ := List.mem_map.1 hx; exact ex_kf e
        simp only [enumL, hOf, DM, DMs, CM, CMs, HpOK, LowOK, upd, Ex.cells, Ex.cellsL_length, g1]
        first | (simp; exact ⟨g2, g3⟩) | (simp [g2]; exact g3) | exact ⟨g2, g3⟩
    · simp (maxSteps := 9999999) only [go_sem, TmOK, DM, DMs, CM, CMs, forall_eq, exists_eq_left, Mq, HpOK, LowOK]
      simp [exC]
end Go.Proofs.Ytmagbjbanpgmhaa.CtD

namespace Go.Proofs.Ytmagbjbanpgmhaa.CtD
open Go Go.CT CtF CtR
theorem l2CopyBlockOf (d : Nat) (ih : ∀ l : List St1, l.length ≤ 4 → (∀ s ∈ l, ∃ d', d = d' + 1 ∧ SmS d' s) → DC Try.prog 103 [.c (.isl 11 (St1.cellsL l))] [] (fun r h => r = .c (.isl 11 (St1.cellsL l)) ∧ h = []))
    (l : List St1) (hl : l.length ≤ 1000000) (hs : ∀ s ∈ l, SmS d s) : DC Try.prog 103 [.c (.isl 11 (St1.cellsL l))] [] (fun r h => r = .c (.isl 11 (St1.cellsL l)) ∧ h = []) := by
  have hmx := mx_eq
  refine dcZ Try.func103 ?_
  simp (maxSteps := 9999999) only [go_sem]
  iterate 2 (try (refine drvZ Try.func103 ?_; simp (maxSteps := 9999999) only [go_sem]))
  refine Go.loopQ (fun i : Nat => [(0, .c (.isl 11 (St1.cellsL l))), (3, .c (.msl 67 11 0 i)), (4, DI .i64 i)]) (fun i => [(67, some (stC (l.take i)))])
    4096 (fun i => i ≤ l.length) (fun i => l.length - i) ?_ 0 (fun j => if j = 67 then some 64 else some j) [] _ (Nat.zero_le _) ?_
  · intro i hi again
    rcases Nat.lt_or_ge i l.length with hlt | hge
    · obtain ⟨⟨k, t, ⟨ik, iv, iks⟩, ⟨vk, vv, vks⟩, c, b, e⟩, hx⟩ : ∃ x, l[i]? = some x := ⟨l[i], by simp [hlt]⟩
      have hsx : l.take (i + 1) = l.take i ++ [.mk k t (.mk ik iv iks) (.mk vk vv vks) c b e] := by rw [List.take_add_one, hx]; rfl
      have hel : (stC (l.take i)).length = i * 11 := by rw [stC_len, List.length_take]; congr 1; omega
      have hsm := hs _ (List.mem_of_getElem? hx)
      have hie : SmE (.mk ik iv iks) ∧ SmE (.mk vk vv vks) := by cases d <;> simp only [SmS] at hsm <;> exact ⟨hsm.1, hsm.2.1⟩
      have hbl : b.length ≤ 4 ∧ (∀ s ∈ b, ∃ d', d = d' + 1 ∧ SmS d' s) := by
        cases d with
        | zero => simp only [SmS] at hsm; rw [hsm.2.2.1]; simp
        | succ d => simp only [SmS] at hsm; exact ⟨hsm.2.2.1, fun s h => ⟨d, rfl, hsm.2.2.2.2.1 s h⟩⟩
      have hel2 : e.length ≤ 4 ∧ (∀ s ∈ e, ∃ d', d = d' + 1 ∧ SmS d' s) := by
        cases d with
        | zero => simp only [SmS] at hsm; rw [hsm.2.2.2]; simp
        | succ d => simp only [SmS] at hsm; exact ⟨hsm.2.2.2.1, fun s h => ⟨d, rfl, hsm.2.2.2.2.2 s h⟩⟩
      refine drvL Try.func103 ?_
      simp (maxSteps := 9999999) only [go_sem, hx, hlt]
      iterate 2 (try (refine drvZ Try.func103 ?_; simp (maxSteps := 9999999) only [go_sem, hx, hlt]))
      refine XK.plain (l2CopyExpr _ hie.1) ok120 ?_ (hbT ())
      iterate 2 (try (refine drvZ Try.func103 ?_; simp (maxSteps := 9999999) only [go_sem]))
      refine XK.plain (l2CopyExpr _ hie.2) ok120 ?_ (hbT ())
      iterate 2 (try (refine drvZ Try.func103 ?_; simp (maxSteps := 9999999) only [go_sem]))
      refine XK.plain (ih b hbl.1 hbl.2) ok103 ?_ (hbT ())
      iterate 2 (try (refine drvZ Try.func103 ?_; simp (maxSteps := 9999999) only [go_sem]))
      refine XK.plain (ih e hel2.1 hel2.2) ok103 ?_ (hbT ())
      iterate 3 (try (refine drvZ Try.func103 ?_; simp (maxSteps := 9999999) only [go_sem]))
      (repeat' with_reducible apply And.intro) <;> (try first | omega | (simp only [InK]; omega) | (intro k e; cases e; rfl) | (intro hguard; exact ⟨hguard, by simp only [InK]; omega⟩) | kernel_rfl)
      iterate 2 (try (refine drvZ Try.func103 ?_; simp (maxSteps := 9999999) only [go_sem]))
      (repeat' with_reducible apply And.intro) <;> (try first | omega | (simp only [InK]; omega) | (intro k e; cases e; rfl) | (intro hguard; exact ⟨hguard, by simp only [InK]; omega⟩) | kernel_rfl)
      refine again (i + 1) (fun j => if j = 67 then some 6208 else some j) [] _ hlt (by omega) ?_
      simp (maxSteps := 9999999) only [go_sem, TmOK, DM, DMs, CM, CMs, forall_eq, exists_eq_left, Mq, HpOK, LowOK, hsx, stC_snoc, List.cons_append, List.nil_append]
      simp
      exact CMs.kf (kf_app (stC_kf _) (by simp [kf]))
    · have hn : ¬ i < l.length := by omega
      obtain rfl : i = l.length := by omega
      refine drvL Try.func103 ?_
      simp (maxSteps := 9999999) only [go_sem, hn, List.take_length]
      iterate 2 (try (refine drvZ Try.func103 ?_; simp (maxSteps := 9999999) only [go_sem, hn, List.take_length]))
      refine RetOb.ofQ (fun j => none) [67] (.c (.isl 11 (St1.cellsL l))) [] ?_ ⟨rfl, rfl⟩ (by simp)
      have g1 : (St1.cellsL l).flatten = stC l := by rw [St1.cellsL_eq]; rfl
      have g2 : ∀ x ∈ St1.cellsL l, x.length = 11 := fun x hx => by rw [St1.cellsL_eq] at hx; obtain ⟨e, _, rfl⟩ := List.mem_map.1 hx; exact St1.cells_len e
      have g3 : ∀ x ∈ St1.cellsL l, ∀ c ∈ x, kf c = true := fun x hx => by rw [St1.cellsL_eq] at hx; obtain ⟨e, _, rfl⟩ := List.mem_map.1 hx; exact st_kf e
      simp only [enumL, hOf, DM, DMs, CM, CMs, HpOK, LowOK, upd, St1.cellsL_length, g1]
      first | (simp; exact ⟨g2, g3⟩) | (simp [g2]; exact g3) | exact ⟨g2, g3⟩
  · simp (maxSteps := 9999999) only [go_sem, TmOK, DM, DMs, CM, CMs, forall_eq, exists_eq_left, Mq, HpOK, LowOK]
    simp [stC, CMs]
theorem copyNil : DC Try.prog 103 [.c (.isl 11 (St1.cellsL []))] [] (fun r h => r = .c (.isl 11 (St1.cellsL [])) ∧ h = []) := by
  refine dcZ Try.func103 ?_
  simp (maxSteps := 9999999) only [go_sem, St1.cellsL]
  iterate 2 (try (refine drvZ Try.func103 ?_; simp (maxSteps := 9999999) only [go_sem, St1.cellsL]))
  refine Go.loop ?_
  refine drvL Try.func103 ?_
  simp (maxSteps := 9999999) only [go_sem, St1.cellsL]
  iterate 2 (try (refine drvZ Try.func103 ?_; simp (maxSteps := 9999999) only [go_sem, St1.cellsL]))
  refine RetOb.ofQ (fun j => none) [64] (.c (.isl 11 [])) [] ?_ ⟨rfl, rfl⟩ (by simp)
  simp [enumL, hOf, DM, CM, HpOK, LowOK, upd]
theorem l2CopyBlock : ∀ (d : Nat) (l : List St1), l.length ≤ 1000000 → (∀ s ∈ l, SmS d s) → DC Try.prog 103 [.c (.isl 11 (St1.cellsL l))] [] (fun r h => r = .c (.isl 11 (St1.cellsL l)) ∧ h = [])
  | 0, l, h1, h2 => l2CopyBlockOf 0 (fun l' h3 h4 => by
      cases l' with
      | nil => exact copyNil
      | cons a r => obtain ⟨d', e, _⟩ := h4 a (by simp); omega) l h1 h2
  | d + 1, l, h1, h2 => l2CopyBlockOf (d + 1) (fun l' h3 h4 => l2CopyBlock d l' (by omega) (fun s hs => by
      obtain ⟨d', e, h⟩ := h4 s hs
      obtain rfl : d = d' := by omega
      exact h)) l h1 h2
end Go.Proofs.Ytmagbjbanpgmhaa.CtD

namespace Go.Proofs.Ytmagbjbanpgmhaa.CtD
open Go Go.CT CtF CtR
/-- The copied block as the caller's own. -/
theorem l2CopyBlockOwnOf (d : Nat) (ih : ∀ l : List St1, l.length ≤ 4 → (∀ s ∈ l, ∃ d', d = d' + 1 ∧ SmS d' s) → DC Try.prog 103 [.c (.isl 11 (St1.cellsL l))] [] (fun r h => r = .c (.isl 11 (St1.cellsL l)) ∧ h = []))
    (l : List St1) (hl : l.length ≤ 1000000) (hs : ∀ s ∈ l, SmS d s) : DC Try.prog 103 [.c (.isl 11 (St1.cellsL l))] [] (fun r h => r = .c (.msl 0 11 0 l.length) ∧ h = [some (stC l)]) := by
  have hmx := mx_eq
  refine dcZ Try.func103 ?_
  simp (maxSteps := 9999999) only [go_sem]
  iterate 2 (try (refine drvZ Try.func103 ?_; simp (maxSteps := 9999999) only [go_sem]))
  refine Go.loopQ (fun i : Nat => [(0, .c (.isl 11 (St1.cellsL l))), (3, .c (.msl 67 11 0 i)), (4, DI .i64 i)]) (fun i => [(67, some (stC (l.take i)))])
    4096 (fun i => i ≤ l.length) (fun i => l.length - i) ?_ 0 (fun j => if j = 67 then some 64 else some j) [] _ (Nat.zero_le _) ?_
  · intro i hi again
    rcases Nat.lt_or_ge i l.length with hlt | hge
    · obtain ⟨⟨k, t, ⟨ik, iv, iks⟩, ⟨vk, vv, vks⟩, c, b, e⟩, hx⟩ : ∃ x, l[i]? = some x := ⟨l[i], by simp [hlt]⟩
      have hsx : l.take (i + 1) = l.take i ++ [.mk k t (.mk ik iv iks) (.mk vk vv vks) c b e] := by rw [List.take_add_one, hx]; rfl
      have hel : (stC (l.take i)).length = i * 11 := by rw [stC_len, List.length_take]; congr 1; omega
      have hsm := hs _ (List.mem_of_getElem? hx)
      have hie : SmE (.mk ik iv iks) ∧ SmE (.mk vk vv vks) := by cases d <;> simp only [SmS] at hsm <;> exact ⟨hsm.1, hsm.2.1⟩
      have hbl : b.length ≤ 4 ∧ (∀ s ∈ b, ∃ d', d = d' + 1 ∧ SmS d' s) := by
        cases d with
        | zero => simp only [SmS] at hsm; rw [hsm.2.2.1]; simp
        | succ d => simp only [SmS] at hsm; exact ⟨hsm.2.2.1, fun s h => ⟨d, rfl, hsm.2.2.2.2.1 s h⟩⟩
      have hel2 : e.length ≤ 4 ∧ (∀ s ∈ e, ∃ d', d = d' + 1 ∧ SmS d' s) := by
        cases d with
        | zero => simp only [SmS] at hsm; rw [hsm.2.2.2]; simp
        | succ d => simp only [SmS] at hsm; exact ⟨hsm.2.2.2.1, fun s h => ⟨d, rfl, hsm.2.2.2.2.2 s h⟩⟩
      refine drvL Try.func103 ?_
      simp (maxSteps := 9999999) only [go_sem, hx, hlt]
      iterate 2 (try (refine drvZ Try.func103 ?_; simp (maxSteps := 9999999) only [go_sem, hx, hlt]))
      refine XK.plain (l2CopyExpr _ hie.1) ok120 ?_ (hbT ())
      iterate 2 (try (refine drvZ Try.func103 ?_; simp (maxSteps := 9999999) only [go_sem]))
      refine XK.plain (l2CopyExpr _ hie.2) ok120 ?_ (hbT ())
      iterate 2 (try (refine drvZ Try.func103 ?_; simp (maxSteps := 9999999) only [go_sem]))
      refine XK.plain (ih b hbl.1 hbl.2) ok103 ?_ (hbT ())
      iterate 2 (try (refine drvZ Try.func103 ?_; simp (maxSteps := 9999999) only [go_sem]))
      refine XK.plain (ih e hel2.1 hel2.2) ok103 ?_ (hbT ())
      iterate 3 (try (refine drvZ Try.func103 ?_; simp (maxSteps := 9999999) only [go_sem]))
      (repeat' with_reducible apply And.intro) <;> (try first | omega | (simp only [InK]; omega) | (intro k e; cases e; rfl) | (intro hguard; exact ⟨hguard, by simp only [InK]; omega⟩) | kernel_rfl)
      iterate 2 (try (refine drvZ Try.func103 ?_; simp (maxSteps := 9999999) only [go_sem]))
      (repeat' with_reducible apply And.intro) <;> (try first | omega | (simp only [InK]; omega) | (intro k e; cases e; rfl) | (intro hguard; exact ⟨hguard, by simp only [InK]; omega⟩) | kernel_rfl)
      refine again (i + 1) (fun j => if j = 67 then some 6208 else some j) [] _ hlt (by omega) ?_
      simp (maxSteps := 9999999) only [go_sem, TmOK, DM, DMs, CM, CMs, forall_eq, exists_eq_left, Mq, HpOK, LowOK, hsx, stC_snoc, List.cons_append, List.nil_append]
      simp
      exact CMs.kf (kf_app (stC_kf _) (by simp [kf]))
    · have hn : ¬ i < l.length := by omega
      obtain rfl : i = l.length := by omega
      refine drvL Try.func103 ?_
      simp (maxSteps := 9999999) only [go_sem, hn, List.take_length]
      iterate 2 (try (refine drvZ Try.func103 ?_; simp (maxSteps := 9999999) only [go_sem, hn, List.take_length]))
      refine RetOb.ofQ (fun j => if j = 0 then some 67 else none) [] (.c (.msl 0 11 0 l.length)) [some (stC l)] ?_ ⟨rfl, rfl⟩ (by simp)
      simp [enumL, hOf, DM, CM, HpOK, LowOK, upd]
      exact CMs.kf (stC_kf _)
  · simp (maxSteps := 9999999) only [go_sem, TmOK, DM, DMs, CM, CMs, forall_eq, exists_eq_left, Mq, HpOK, LowOK]
    simp [stC, CMs]
end Go.Proofs.Ytmagbjbanpgmhaa.CtD

namespace Go.Proofs.Ytmagbjbanpgmhaa.CtD
open Go Go.CT CtF CtR
theorem l2CopyBlockOwn (d : Nat) (l : List St1) (h1 : l.length ≤ 1000000) (h2 : ∀ s ∈ l, SmS d s) : DC Try.prog 103 [.c (.isl 11 (St1.cellsL l))] [] (fun r h => r = .c (.msl 0 11 0 l.length) ∧ h = [some (stC l)]) :=
  l2CopyBlockOwnOf d (fun l' h3 h4 => by
    cases d with
    | zero => cases l' with
      | nil => exact copyNil
      | cons a r => obtain ⟨d', e, _⟩ := h4 a (by simp); omega
    | succ d => exact l2CopyBlock d l' (by omega) (fun s hs => by
        obtain ⟨d', e, h⟩ := h4 s hs
        obtain rfl : d = d' := by omega
        exact h)) l h1 h2
end Go.Proofs.Ytmagbjbanpgmhaa.CtD

namespace Go.Proofs.Ytmagbjbanpgmhaa.CtD
open Go Go.CT CtF CtR
theorem renCs_stC (r : Nat → Nat) (l : List St1) : renCs r (stC l) = stC l := renCs_kf r _ (stC_kf l)
theorem l2Copy (p : Pg) (d : Nat) (hv : p.vars.length ≤ 1000) (ha : p.arrays.length ≤ 1000) (hb : p.body.length ≤ 1000) (hs : ∀ s ∈ p.body, SmS d s) : DC Try.prog 80 [.agg p.cells] []
    (fun r h => r = .agg [.msl 0 1 0 p.vars.length, .msl 1 1 0 p.arrays.length, .msl 2 11 0 p.body.length] ∧ h = [some (p.vars.map I64), some (p.arrays.map I64), some (stC p.body)]) := by
  have hmx := mx_eq
  have hcb := l2CopyBlockOwn d p.body (by omega) hs
  generalize hR : (fun (r : D) (h : List (Option (List C))) => r = .agg [.msl 0 1 0 p.vars.length, .msl 1 1 0 p.arrays.length, .msl 2 11 0 p.body.length] ∧ h = [some (p.vars.map I64), some (p.arrays.map I64), some (stC p.body)]) = R
  obtain ⟨vs, ar, bd⟩ := p
  have hv : vs.length ≤ 1000 := hv
  have ha : ar.length ≤ 1000 := ha
  have hb : bd.length ≤ 1000 := hb
  have hfl : (bd.map St1.cells).flatten = stC bd := rfl
  refine dcZ Try.func80 ?_
  simp (maxSteps := 9999999) only [go_sem, flat_I']
  iterate 2 ((try (refine drvZ Try.func80 ?_; simp (maxSteps := 9999999) only [go_sem, flat_I'])); (try ((with_reducible refine And.intro ?_ ?_) <;> (repeat' with_reducible apply And.intro) <;> try exact sd)))
  refine XK.callG [] hcb ok103 (fun i' x h => by simp at h) (hbT ()) (fun d h' ⟨_, e⟩ => by subst e; simp) ?_ (fun _ => ⟨by kernel_rfl, _, _, ⟨rfl, rfl⟩, by simp⟩)
  rintro _ _ ⟨rfl, rfl⟩ _
  iterate 3 ((try (refine drvZ Try.func80 ?_; simp (maxSteps := 9999999) only [go_sem, flat_I', renCs_stC])); (try ((with_reducible refine And.intro ?_ ?_) <;> (repeat' with_reducible apply And.intro) <;> try exact sd)))
  refine RetOb.ofQ (fun j => if j = 0 then some 320 else if j = 1 then some 576 else if j = 2 then some 768 else none) [] (.agg [.msl 0 1 0 vs.length, .msl 1 1 0 ar.length, .msl 2 11 0 bd.length]) [some (vs.map I64), some (ar.map I64), some (stC bd)] ?_ (by rw [← hR]; exact ⟨rfl, rfl⟩) (by simp)
  simp [enumL, hOf, DM, DMs, CM, CMs, HpOK, LowOK, upd, CMs_I]
  exact CMs.kf (stC_kf _)
end Go.Proofs.Ytmagbjbanpgmhaa.CtD

namespace Go.Proofs.Ytmagbjbanpgmhaa.CtD
open Go Go.CT CtF CtR
/-- A statement without its numbers. -/
def bare : St1 → List Ex × List Ex × List St1 × List St1
  | .mk _ _ (.mk _ _ ki) (.mk _ _ kv) _ b e => (ki, kv, b, e)
theorem bare_size (k : Nat) {s s' : St1} (h : bare s = bare s') : tsize k s = tsize k s' := by
  obtain ⟨k1, t1, ⟨a1, b1, c1⟩, ⟨d1, e1, f1⟩, g1, h1, i1⟩ := s
  obtain ⟨k2, t2, ⟨a2, b2, c2⟩, ⟨d2, e2, f2⟩, g2, h2, i2⟩ := s'
  simp only [bare, Prod.mk.injEq] at h
  obtain ⟨rfl, rfl, rfl, rfl⟩ := h
  cases k <;> rfl
theorem bare_sm (d : Nat) {s s' : St1} (h : bare s = bare s') (hs : SmS d s) : SmS d s' := by
  obtain ⟨k1, t1, ⟨a1, b1, c1⟩, ⟨d1, e1, f1⟩, g1, h1, i1⟩ := s
  obtain ⟨k2, t2, ⟨a2, b2, c2⟩, ⟨d2, e2, f2⟩, g2, h2, i2⟩ := s'
  simp only [bare, Prod.mk.injEq] at h
  obtain ⟨rfl, rfl, rfl, rfl⟩ := h
  cases d with
  | zero => simp only [SmS] at hs ⊢; exact ⟨hs.1.any, hs.2.1.any, hs.2.2⟩
  | succ d => simp only [SmS] at hs ⊢; exact ⟨hs.1.any, hs.2.1.any, hs.2.2⟩
theorem bare_list (k : Nat) : ∀ {l l' : List St1}, l'.map bare = l.map bare → lsize k l' = lsize k l
  | [], [], _ => rfl
  | [], _ :: _, h => by simp at h
  | _ :: _, [], h => by simp at h
  | a :: r, b :: q, h => by
    simp only [List.map_cons, List.cons.injEq] at h
    have := bare_list k h.2
    simp only [lsize, List.map_cons, List.sum_cons] at this ⊢
    rw [this, bare_size k h.1]
theorem bare_sml {d : Nat} {l l' : List St1} (h : l'.map bare = l.map bare) (hs : ∀ s ∈ l, SmS d s) : ∀ s ∈ l', SmS d s := fun s hm => by
  have h1 : bare s ∈ l.map bare := by rw [← h]; exact List.mem_map.2 ⟨s, hm, rfl⟩
  obtain ⟨s0, h2, h3⟩ := List.mem_map.1 h1
  exact bare_sm d h3 (hs s0 h2)
def muR (bs : List Int) (n : Nat) (r : D) (h : List (Option (List C))) : Prop := ∃ p : Pg, r = .agg p.cells ∧ SmP p ∧ rdL bs n 5 h
theorem RetOb.prK {R : D → List (Option (List C)) → Prop} {p : Pg} {hp : Hp} {k0 k1 k2 nv na nb : Nat} {rc : List C} (hR : R (.agg p.cells) [some rc]) (hrc : ∀ c ∈ rc, kf c = true)
    (hz : hp 0 = some (some rc)) (h0 : hp k0 = some (some (p.vars.map I64))) (h1 : hp k1 = some (some (p.arrays.map I64))) (h2 : hp k2 = some (some (stC p.body))) (hv : nv = p.vars.length) (ha : na = p.arrays.length) (hb : nb = p.body.length)
    (hne : 0 ≠ k0 ∧ 0 ≠ k1 ∧ 0 ≠ k2) : RetOb 1 R (.agg [.msl k0 1 0 nv, .msl k1 1 0 na, .msl k2 11 0 nb]) hp := by
  subst hv ha hb
  obtain ⟨vs, ar, bd⟩ := p
  obtain ⟨n0, n1, n2⟩ := hne
  refine RetOb.ofQ (fun j => if j = 0 then some 0 else none) [k0, k1, k2] _ [some rc] ?_ hR (by simp)
  have e4 : ∀ {hT hS : Hp} {r : Nat → Option Nat} {fz : List Nat}, CMs hT r hS fz rc rc = True := eq_true (CMs.kf hrc)
  have g1 : (St1.cellsL bd).flatten = stC bd := by rw [St1.cellsL_eq]; rfl
  have g2 : ∀ x ∈ St1.cellsL bd, x.length = 11 := fun x hx => by rw [St1.cellsL_eq] at hx; obtain ⟨e, _, rfl⟩ := List.mem_map.1 hx; exact St1.cells_len e
  have g3 : ∀ x ∈ St1.cellsL bd, ∀ c ∈ x, kf c = true := fun x hx => by rw [St1.cellsL_eq] at hx; obtain ⟨e, _, rfl⟩ := List.mem_map.1 hx; exact st_kf e
  simp [enumL, DM, DMs, CM, CMs, HpOK, LowOK, hOf, upd, Pg.cells, isI, flat_I, kf, e4, hz, h0, h1, h2, g1, St1.cellsL_length, n0, n1, n2]
  exact ⟨g2, g3⟩
theorem stC_cons (s : St1) (l : List St1) : stC (s :: l) = s.cells ++ stC l := by simp [stC]
theorem stC_nil : stC [] = [] := rfl
theorem l2Mutate (bs : List Int) (n : Nat) (p : Pg) (hb : Fits .u8 bs) (hl : bs.length ≤ 2000) (hn : n ≤ 274877906944) (hp : DrP p) : DC Try.prog 51 [.c (.ptr 0 0), .agg p.cells] [some (rdr bs n)] (muR bs n) := by
  have hmx := mx_eq
  have hsm := hp.smP
  have hcp := l2Copy p 2 (by have := hp.nv; omega) (by have := hp.na; omega) (by have := hp.nb; omega) hp.sm
  have hnum := fun n xs h1 h2 h3 => numO bs n xs hb hl h1 h2 h3
  generalize hR : muR bs n = R
  obtain ⟨vs, ar, bd⟩ := p
  have hv5 : vs.length ≤ 5 := hp.nv
  have ha2 : ar.length ≤ 2 := hp.na
  have hb4 : bd.length ≤ 4 := hp.nb
  have hfin : ∀ (k0 nv na nb : Nat) (n' : Nat) (va' : List Int) (bd' : List St1) (hp : Hp), va'.length ≤ 13 → bd'.length ≤ 4 → bd'.map bare = bd.map bare → n ≤ n' → n' ≤ n + 5 → hp 0 = some (some (rdr bs n')) → hp k0 = some (some (va'.map I64)) → hp 194 = some (some (ar.map I64)) → hp 195 = some (some (stC bd')) → nv = va'.length → na = ar.length → nb = bd'.length →
      0 ≠ k0 → RetOb 1 R (.agg [.msl k0 1 0 nv, .msl 194 1 0 na, .msl 195 11 0 nb]) hp := fun k0 nv na nb n' va' bd' hp g1 g1b g1c g2 g3 g4 g5 g6 g7 g8 g9 g10 e4 =>
    RetOb.prK (p := ⟨va', ar, bd'⟩) (by rw [← hR]; exact ⟨⟨va', ar, bd'⟩, rfl, ⟨g1, ha2, g1b, fun k => by rw [bare_list k g1c]; exact hsm.sz k, bare_sml g1c hsm.sm⟩, n', g2, g3, rfl⟩) (rdr_kf bs n') g4 g5 g6 g7 g8 g9 g10 ⟨e4, by decide, by decide⟩
  refine dcZ Try.func51 ?_
  simp (maxSteps := 9999999) only [go_sem, rdr]
  ((try (refine drvZ Try.func51 ?_; simp (maxSteps := 9999999) only [go_sem, rdr])); (try ((with_reducible refine And.intro ?_ ?_) <;> (repeat' with_reducible apply And.intro) <;> try exact sd)))
  refine XK.callG [] hcp ok80 (fun i' x h => by simp at h) (hbT ()) (fun d h' ⟨_, e⟩ => by subst e; simp) ?_
  rintro _ _ ⟨rfl, rfl⟩ _
  iterate 3 ((try (refine drvZ Try.func51 ?_; simp (maxSteps := 9999999) only [go_sem, renCs_I, renCs_stC, rdr])); (try ((with_reducible refine And.intro ?_ ?_) <;> (repeat' with_reducible apply And.intro) <;> try exact sd)))
  refine XK.callG [0] (pick bs n 60 hb hl (by omega) (by simp only [InK]; omega)) ok45 (hhp_one rfl) (hbT ()) (fun d h' ⟨v, _, _, e⟩ => by subst e; simp) ?_
  rintro _ _ ⟨v, rfl, hpv, rfl⟩ _
  have hpv : v = 0 ∨ v = 1 ∨ v = 2 ∨ v = 3 ∨ v = 4 ∨ v = 5 ∨ v = 6 ∨ (v ≠ 0 ∧ v ≠ 1 ∧ v ≠ 2 ∧ v ≠ 3 ∧ v ≠ 4 ∧ v ≠ 5 ∧ v ≠ 6) := by omega
  rcases hpv with rfl | rfl | rfl | rfl | rfl | rfl | rfl | ⟨h0, h1, h2, h3, h4, h5, h6⟩
  · cases vs with
    | nil =>
      have hz : ((0 : Int) < 0) = False := eq_false (by omega)
      iterate 5 ((try (refine drvZ Try.func51 ?_; simp (maxSteps := 9999999) only [go_sem, rdr, Int.natCast_zero, hz])); (try ((with_reducible refine And.intro ?_ ?_) <;> (repeat' with_reducible apply And.intro) <;> try exact sd)))
      exact hfin 193 _ _ _ (n + 1) [] bd _ (by first | omega | (simp; omega) | simp) (by first | omega | (simp; omega) | simp) rfl (by omega) (by omega) rfl rfl rfl rfl rfl rfl rfl (by decide)
    | cons x r =>
      have hv5 : r.length + 1 ≤ 5 := hv5
      have hz : ((0 : Int) < (r.length : Int) + 1) = True := eq_true (by omega)
      iterate 5 ((try (refine drvZ Try.func51 ?_; simp (maxSteps := 9999999) only [go_sem, rdr, hz])); (try ((with_reducible refine And.intro ?_ ?_) <;> (repeat' with_reducible apply And.intro) <;> try exact sd)))
      refine XK.callG [0] (l1Draw bs (n + 1) hb hl (by omega)) ok81 (hhp_one rfl) (hbT ()) (fun d h' ⟨_, _, _, _, _, _, e⟩ => by subst e; simp) ?_ (fun _ => ⟨by kernel_rfl, _, _, ⟨0, rfl, by simp [InK], n + 1, by omega, by omega, rfl⟩, by simp⟩)
      rintro _ _ ⟨w, rfl, hw, n', hn1, hn2, rfl⟩ _
      iterate 5 ((try (refine drvZ Try.func51 ?_; simp (maxSteps := 9999999) only [go_sem, rdr, hz])); (try ((with_reducible refine And.intro ?_ ?_) <;> (repeat' with_reducible apply And.intro) <;> try exact sd)))
      exact hfin 193 _ _ _ n' (w :: r) bd _ (by first | omega | (simp; omega) | simp) (by omega) rfl (by omega) (by omega) rfl rfl rfl rfl rfl rfl rfl (by decide)
  · iterate 5 ((try (refine drvZ Try.func51 ?_; simp (maxSteps := 9999999) only [go_sem, rdr])); (try ((with_reducible refine And.intro ?_ ?_) <;> (repeat' with_reducible apply And.intro) <;> try exact sd)))
    refine Go.loopQ (fun l : List Int => [(4, .c (.ptr 65 0)), (5, .c (.ptr 257 0))])
      (fun l => [(0, some (rdr bs ((n + 1 : Nat) : Int))), (65, some [.v (.slice none 0 0), .v (.slice none 0 0), .v (.slice none 0 0)]), (257, some [.msl 67 1 0 l.length, .msl 194 1 0 ar.length, .msl 195 11 0 bd.length]), (67, some (l.map I64)), (194, some (ar.map I64)), (195, some (stC bd))])
      4096 (fun l => l.length ≤ 13) (fun l => 13 - l.length) ?_ vs (fun j => if j = 67 then some 193 else some j) [] _ (by omega) ?_
    · intro l hi again
      rcases Nat.lt_or_ge l.length 13 with hlt | hge
      · have hz : ((l.length : Int) ≤ 12) = True := eq_true (by omega)
        refine drvL Try.func51 ?_
        simp (maxSteps := 9999999) only [go_sem, rdr, hz]
        iterate 4 ((try (refine drvZ Try.func51 ?_; simp (maxSteps := 9999999) only [go_sem, rdr, hz])); (try ((with_reducible refine And.intro ?_ ?_) <;> (repeat' with_reducible apply And.intro) <;> try exact sd)))
        refine again (l ++ [1]) (fun j => if j = 67 then some 4544 else some j) [] _ (by simp; omega) (by simp; omega) ?_
        simp (maxSteps := 9999999) only [go_sem, TmOK, DM, DMs, CM, CMs, forall_eq, exists_eq_left, Mq, HpOK, LowOK, rdr, i_snoc]
        simp
        exact ⟨CMs.kf (kf_app (kf_I _) (by simp [kf])), CMs.kf (kf_I _), CMs.kf (stC_kf _)⟩
      · have hz : ((l.length : Int) ≤ 12) = False := eq_false (by omega)
        refine drvL Try.func51 ?_
        simp (maxSteps := 9999999) only [go_sem, rdr, hz]
        iterate 4 ((try (refine drvZ Try.func51 ?_; simp (maxSteps := 9999999) only [go_sem, rdr, hz])); (try ((with_reducible refine And.intro ?_ ?_) <;> (repeat' with_reducible apply And.intro) <;> try exact sd)))
        exact hfin 67 _ _ _ (n + 1) l bd _ (by omega) (by omega) rfl (by omega) (by omega) rfl rfl rfl rfl rfl rfl rfl (by decide)
    · simp (maxSteps := 9999999) only [go_sem, TmOK, DM, DMs, CM, CMs, forall_eq, exists_eq_left, Mq, HpOK, LowOK, rdr]
      simp
      exact ⟨CMs.kf (kf_I _), CMs.kf (kf_I _), CMs.kf (stC_kf _)⟩
  · cases bd with
    | nil =>
      have hz : ((0 : Int) < 0) = False := eq_false (by omega)
      iterate 9 ((try (refine drvZ Try.func51 ?_; simp (maxSteps := 9999999) only [go_sem, rdr, Int.natCast_zero, hz])); (try ((with_reducible refine And.intro ?_ ?_) <;> (repeat' with_reducible apply And.intro) <;> try exact sd)))
      exact hfin 193 _ _ _ (n + 1) vs [] _ (by first | omega | (simp; omega) | simp) (by first | omega | (simp; omega) | simp) rfl (by omega) (by omega) rfl rfl rfl rfl rfl rfl rfl (by decide)
    | cons s r =>
      obtain ⟨k, t, ⟨ik, iv, iks⟩, ⟨vk, vv, vks⟩, c, b, e⟩ := s
      have hb4 : r.length + 1 ≤ 4 := hb4
      have hz : ((0 : Int) < (r.length : Int) + 1) = True := eq_true (by omega)
      iterate 9 ((try (refine drvZ Try.func51 ?_; simp (maxSteps := 9999999) only [go_sem, rdr, hz, stC_cons])); (try ((with_reducible refine And.intro ?_ ?_) <;> (repeat' with_reducible apply And.intro) <;> try exact sd)))
      refine XK.callG [0, 1473] (hnum (n + 1) [0, 6, 1, 5, 2] (by omega) (by decide) (by decide)) ok72 (hhp2 rfl rfl) (hbT ()) (fun d h' ⟨_, _, _, e⟩ => by subst e; simp) ?_ (fun _ => ⟨by kernel_rfl, _, _, ⟨1, rfl, by simp, rfl⟩, by simp⟩)
      rintro _ _ ⟨w, rfl, hw, rfl⟩ _
      clear hw
      iterate 5 ((try (refine drvZ Try.func51 ?_; simp (maxSteps := 9999999) only [go_sem, rdr, hz, stC_cons])); (try ((with_reducible refine And.intro ?_ ?_) <;> (repeat' with_reducible apply And.intro) <;> try exact sd)))
      exact hfin 193 _ _ _ (n + 2) vs ((.mk w t (.mk ik iv iks) (.mk vk vv vks) c b e) :: r) _ (by first | omega | (simp; omega) | simp) (by first | omega | (simp; omega) | simp) rfl (by omega) (by omega) rfl rfl rfl rfl rfl rfl rfl (by decide)
  · match bd, hb4 with
    | [], hb4 =>
      have hz : ((0 : Int) < 0) = False := eq_false (by omega)
      iterate 9 ((try (refine drvZ Try.func51 ?_; simp (maxSteps := 9999999) only [go_sem, rdr, Int.natCast_zero, hz])); (try ((with_reducible refine And.intro ?_ ?_) <;> (repeat' with_reducible apply And.intro) <;> try exact sd)))
      exact hfin 193 _ _ _ (n + 1) vs [] _ (by first | omega | (simp; omega) | simp) (by first | omega | (simp; omega) | simp) rfl (by omega) (by omega) rfl rfl rfl rfl rfl rfl rfl (by decide)
    | [a], hb4 =>
      obtain ⟨k, t, ⟨ik, iv, iks⟩, ⟨vk, vv, vks⟩, c0, b0, e0⟩ := a
      iterate 9 ((try (refine drvZ Try.func51 ?_; simp (maxSteps := 9999999) only [go_sem, rdr, stC_cons, stC_nil, Int.reduceSub, Int.natCast_zero])); (try ((with_reducible refine And.intro ?_ ?_) <;> (repeat' with_reducible apply And.intro) <;> try exact sd)))
      refine XK.callG [0, 1729] (hnum (n + 1) [-1, 12, 1, 9223372036854775807] (by omega) (by decide) (by decide)) ok72 (hhp2 rfl rfl) (hbT ()) (fun d h' ⟨_, _, _, e⟩ => by subst e; simp) ?_ (fun _ => ⟨by kernel_rfl, _, _, ⟨1, rfl, by simp, rfl⟩, by simp⟩)
      rintro _ _ ⟨w, rfl, hw, rfl⟩ _
      clear hw
      iterate 5 ((try (refine drvZ Try.func51 ?_; simp (maxSteps := 9999999) only [go_sem, rdr, stC_cons, stC_nil, Int.reduceSub, Int.natCast_zero])); (try ((with_reducible refine And.intro ?_ ?_) <;> (repeat' with_reducible apply And.intro) <;> try exact sd)))
      exact hfin 193 _ _ _ (n + 2) vs [(.mk k w (.mk ik iv iks) (.mk vk vv vks) c0 b0 e0)] _ (by first | omega | (simp; omega) | simp) (by first | omega | (simp; omega) | simp) rfl (by omega) (by omega) rfl rfl rfl rfl rfl rfl rfl (by decide)
    | [a, b], hb4 =>
      obtain ⟨k, t, ⟨ik, iv, iks⟩, ⟨vk, vv, vks⟩, c0, b0, e0⟩ := b
      obtain ⟨ka, ta, ⟨ika, iva, iksa⟩, ⟨vka, vva, vksa⟩, ca, ba, ea⟩ := a
      iterate 9 ((try (refine drvZ Try.func51 ?_; simp (maxSteps := 9999999) only [go_sem, rdr, stC_cons, stC_nil, Int.reduceSub, Int.natCast_zero])); (try ((with_reducible refine And.intro ?_ ?_) <;> (repeat' with_reducible apply And.intro) <;> try exact sd)))
      refine XK.callG [0, 1729] (hnum (n + 1) [-1, 12, 1, 9223372036854775807] (by omega) (by decide) (by decide)) ok72 (hhp2 rfl rfl) (hbT ()) (fun d h' ⟨_, _, _, e⟩ => by subst e; simp) ?_ (fun _ => ⟨by kernel_rfl, _, _, ⟨1, rfl, by simp, rfl⟩, by simp⟩)
      rintro _ _ ⟨w, rfl, hw, rfl⟩ _
      clear hw
      iterate 5 ((try (refine drvZ Try.func51 ?_; simp (maxSteps := 9999999) only [go_sem, rdr, stC_cons, stC_nil, Int.reduceSub, Int.natCast_zero])); (try ((with_reducible refine And.intro ?_ ?_) <;> (repeat' with_reducible apply And.intro) <;> try exact sd)))
      exact hfin 193 _ _ _ (n + 2) vs [(.mk ka ta (.mk ika iva iksa) (.mk vka vva vksa) ca ba ea), (.mk k w (.mk ik iv iks) (.mk vk vv vks) c0 b0 e0)] _ (by first | omega | (simp; omega) | simp) (by first | omega | (simp; omega) | simp) rfl (by omega) (by omega) rfl rfl rfl rfl rfl rfl rfl (by decide)
    | [a, b, c], hb4 =>
      obtain ⟨k, t, ⟨ik, iv, iks⟩, ⟨vk, vv, vks⟩, c0, b0, e0⟩ := c
      obtain ⟨ka, ta, ⟨ika, iva, iksa⟩, ⟨vka, vva, vksa⟩, ca, ba, ea⟩ := a
      obtain ⟨kb, tb, ⟨ikb, ivb, iksb⟩, ⟨vkb, vvb, vksb⟩, cb, bb, eb⟩ := b
      iterate 9 ((try (refine drvZ Try.func51 ?_; simp (maxSteps := 9999999) only [go_sem, rdr, stC_cons, stC_nil, Int.reduceSub, Int.natCast_zero])); (try ((with_reducible refine And.intro ?_ ?_) <;> (repeat' with_reducible apply And.intro) <;> try exact sd)))
      refine XK.callG [0, 1729] (hnum (n + 1) [-1, 12, 1, 9223372036854775807] (by omega) (by decide) (by decide)) ok72 (hhp2 rfl rfl) (hbT ()) (fun d h' ⟨_, _, _, e⟩ => by subst e; simp) ?_ (fun _ => ⟨by kernel_rfl, _, _, ⟨1, rfl, by simp, rfl⟩, by simp⟩)
      rintro _ _ ⟨w, rfl, hw, rfl⟩ _
      clear hw
      iterate 5 ((try (refine drvZ Try.func51 ?_; simp (maxSteps := 9999999) only [go_sem, rdr, stC_cons, stC_nil, Int.reduceSub, Int.natCast_zero])); (try ((with_reducible refine And.intro ?_ ?_) <;> (repeat' with_reducible apply And.intro) <;> try exact sd)))
      exact hfin 193 _ _ _ (n + 2) vs [(.mk ka ta (.mk ika iva iksa) (.mk vka vva vksa) ca ba ea), (.mk kb tb (.mk ikb ivb iksb) (.mk vkb vvb vksb) cb bb eb), (.mk k w (.mk ik iv iks) (.mk vk vv vks) c0 b0 e0)] _ (by first | omega | (simp; omega) | simp) (by first | omega | (simp; omega) | simp) rfl (by omega) (by omega) rfl rfl rfl rfl rfl rfl rfl (by decide)
    | [a, b, c, d], hb4 =>
      obtain ⟨k, t, ⟨ik, iv, iks⟩, ⟨vk, vv, vks⟩, c0, b0, e0⟩ := d
      obtain ⟨ka, ta, ⟨ika, iva, iksa⟩, ⟨vka, vva, vksa⟩, ca, ba, ea⟩ := a
      obtain ⟨kb, tb, ⟨ikb, ivb, iksb⟩, ⟨vkb, vvb, vksb⟩, cb, bb, eb⟩ := b
      obtain ⟨kc, tc, ⟨ikc, ivc, iksc⟩, ⟨vkc, vvc, vksc⟩, cc, bc, ec⟩ := c
      iterate 9 ((try (refine drvZ Try.func51 ?_; simp (maxSteps := 9999999) only [go_sem, rdr, stC_cons, stC_nil, Int.reduceSub, Int.natCast_zero])); (try ((with_reducible refine And.intro ?_ ?_) <;> (repeat' with_reducible apply And.intro) <;> try exact sd)))
      refine XK.callG [0, 1729] (hnum (n + 1) [-1, 12, 1, 9223372036854775807] (by omega) (by decide) (by decide)) ok72 (hhp2 rfl rfl) (hbT ()) (fun d h' ⟨_, _, _, e⟩ => by subst e; simp) ?_ (fun _ => ⟨by kernel_rfl, _, _, ⟨1, rfl, by simp, rfl⟩, by simp⟩)
      rintro _ _ ⟨w, rfl, hw, rfl⟩ _
      clear hw
      iterate 5 ((try (refine drvZ Try.func51 ?_; simp (maxSteps := 9999999) only [go_sem, rdr, stC_cons, stC_nil, Int.reduceSub, Int.natCast_zero])); (try ((with_reducible refine And.intro ?_ ?_) <;> (repeat' with_reducible apply And.intro) <;> try exact sd)))
      exact hfin 193 _ _ _ (n + 2) vs [(.mk ka ta (.mk ika iva iksa) (.mk vka vva vksa) ca ba ea), (.mk kb tb (.mk ikb ivb iksb) (.mk vkb vvb vksb) cb bb eb), (.mk kc tc (.mk ikc ivc iksc) (.mk vkc vvc vksc) cc bc ec), (.mk k w (.mk ik iv iks) (.mk vk vv vks) c0 b0 e0)] _ (by first | omega | (simp; omega) | simp) (by first | omega | (simp; omega) | simp) rfl (by omega) (by omega) rfl rfl rfl rfl rfl rfl rfl (by decide)
  · cases bd with
    | nil =>
      have hz : ((0 : Int) < 0) = False := eq_false (by omega)
      iterate 9 ((try (refine drvZ Try.func51 ?_; simp (maxSteps := 9999999) only [go_sem, rdr, Int.natCast_zero, hz])); (try ((with_reducible refine And.intro ?_ ?_) <;> (repeat' with_reducible apply And.intro) <;> try exact sd)))
      exact hfin 193 _ _ _ (n + 1) vs [] _ (by first | omega | (simp; omega) | simp) (by first | omega | (simp; omega) | simp) rfl (by omega) (by omega) rfl rfl rfl rfl rfl rfl rfl (by decide)
    | cons s r =>
      obtain ⟨k, t, ⟨ik, iv, iks⟩, ⟨vk, vv, vks⟩, c, b, e⟩ := s
      have hb4 : r.length + 1 ≤ 4 := hb4
      have hz : ((0 : Int) < (r.length : Int) + 1) = True := eq_true (by omega)
      iterate 9 ((try (refine drvZ Try.func51 ?_; simp (maxSteps := 9999999) only [go_sem, rdr, hz, stC_cons])); (try ((with_reducible refine And.intro ?_ ?_) <;> (repeat' with_reducible apply And.intro) <;> try exact sd)))
      refine XK.callG [0, 1729] (hnum (n + 1) [-1, 256, 12, 1] (by omega) (by decide) (by decide)) ok72 (hhp2 rfl rfl) (hbT ()) (fun d h' ⟨_, _, _, e⟩ => by subst e; simp) ?_ (fun _ => ⟨by kernel_rfl, _, _, ⟨1, rfl, by simp, rfl⟩, by simp⟩)
      rintro _ _ ⟨w, rfl, hw, rfl⟩ _
      clear hw
      iterate 5 ((try (refine drvZ Try.func51 ?_; simp (maxSteps := 9999999) only [go_sem, rdr, hz, stC_cons])); (try ((with_reducible refine And.intro ?_ ?_) <;> (repeat' with_reducible apply And.intro) <;> try exact sd)))
      exact hfin 193 _ _ _ (n + 2) vs ((.mk k t (.mk ik iv iks) (.mk vk w vks) c b e) :: r) _ (by first | omega | (simp; omega) | simp) (by first | omega | (simp; omega) | simp) rfl (by omega) (by omega) rfl rfl rfl rfl rfl rfl rfl (by decide)
  · cases bd with
    | nil =>
      have hz : ((0 : Int) < 0) = False := eq_false (by omega)
      iterate 9 ((try (refine drvZ Try.func51 ?_; simp (maxSteps := 9999999) only [go_sem, rdr, Int.natCast_zero, hz])); (try ((with_reducible refine And.intro ?_ ?_) <;> (repeat' with_reducible apply And.intro) <;> try exact sd)))
      exact hfin 193 _ _ _ (n + 1) vs [] _ (by first | omega | (simp; omega) | simp) (by first | omega | (simp; omega) | simp) rfl (by omega) (by omega) rfl rfl rfl rfl rfl rfl rfl (by decide)
    | cons s r =>
      obtain ⟨k, t, ⟨ik, iv, iks⟩, ⟨vk, vv, vks⟩, c, b, e⟩ := s
      have hb4 : r.length + 1 ≤ 4 := hb4
      have hz : ((0 : Int) < (r.length : Int) + 1) = True := eq_true (by omega)
      iterate 9 ((try (refine drvZ Try.func51 ?_; simp (maxSteps := 9999999) only [go_sem, rdr, hz, stC_cons])); (try ((with_reducible refine And.intro ?_ ?_) <;> (repeat' with_reducible apply And.intro) <;> try exact sd)))
      refine XK.callG [0, 1857] (hnum (n + 1) [1, 4, -1, 2] (by omega) (by decide) (by decide)) ok72 (hhp2 rfl rfl) (hbT ()) (fun d h' ⟨_, _, _, e⟩ => by subst e; simp) ?_ (fun _ => ⟨by kernel_rfl, _, _, ⟨1, rfl, by simp, rfl⟩, by simp⟩)
      rintro _ _ ⟨w, rfl, hw, rfl⟩ _
      clear hw
      iterate 5 ((try (refine drvZ Try.func51 ?_; simp (maxSteps := 9999999) only [go_sem, rdr, hz, stC_cons])); (try ((with_reducible refine And.intro ?_ ?_) <;> (repeat' with_reducible apply And.intro) <;> try exact sd)))
      exact hfin 193 _ _ _ (n + 2) vs ((.mk k t (.mk ik iv iks) (.mk vk vv vks) w b e) :: r) _ (by first | omega | (simp; omega) | simp) (by first | omega | (simp; omega) | simp) rfl (by omega) (by omega) rfl rfl rfl rfl rfl rfl rfl (by decide)
  · iterate 8 ((try (refine drvZ Try.func51 ?_; simp (maxSteps := 9999999) only [go_sem, rdr])); (try ((with_reducible refine And.intro ?_ ?_) <;> (repeat' with_reducible apply And.intro) <;> try exact sd)))
    refine RetOb.ofQ (fun j => if j = 0 then some 0 else none) [] (.agg (Pg.cells ⟨[], [], []⟩)) [some (rdr bs ((n + 1 : Nat) : Int))] ?_ ?_ (by simp)
    · simp [enumL, hOf, DM, DMs, CM, CMs, HpOK, LowOK, upd, rdr, Pg.cells, isI, kf, St1.cellsL]
    · rw [← hR]; exact ⟨⟨[], [], []⟩, rfl, ⟨by simp, by simp, by simp, fun k => by simp [lsize], by simp⟩, n + 1, by omega, by omega, rfl⟩
  · have e0 : (v == 0) = false := by simp [h0]
    have e1 : (v == 1) = false := by simp [h1]
    have e2 : (v == 2) = false := by simp [h2]
    have e3 : (v == 3) = false := by simp [h3]
    have e4 : (v == 4) = false := by simp [h4]
    have e5 : (v == 5) = false := by simp [h5]
    have e6 : (v == 6) = false := by simp [h6]
    iterate 8 ((try (refine drvZ Try.func51 ?_; simp (maxSteps := 9999999) only [go_sem, rdr, h0, h1, h2, h3, h4, h5, h6, e0, e1, e2, e3, e4, e5, e6])); (try ((with_reducible refine And.intro ?_ ?_) <;> (repeat' with_reducible apply And.intro) <;> try exact sd)))
    exact hfin 193 _ _ _ (n + 1) vs bd _ (by omega) (by omega) rfl (by omega) (by omega) rfl rfl rfl rfl rfl rfl rfl (by decide)
end Go.Proofs.Ytmagbjbanpgmhaa.CtD

namespace Go.Proofs.Ytmagbjbanpgmhaa.CtR
open Go Go.CT CtF
theorem shape_bd (vs ar : List Int) (b1 b2 : List St1) : ∀ (d : Nat) (e : Ex), shape ⟨vs, ar, b1⟩ d e = shape ⟨vs, ar, b2⟩ d e
  | 0, _ => rfl
  | d + 1, .mk k v ks => by
    have h : shape ⟨vs, ar, b1⟩ d = shape ⟨vs, ar, b2⟩ d := funext (shape_bd vs ar b1 b2 d)
    simp only [shape, h]
    rfl
theorem right_bd (vs ar : List Int) (b1 b2 : List St1) (e : Ex) : right ⟨vs, ar, b1⟩ e = right ⟨vs, ar, b2⟩ e := by simp only [right, shape_bd vs ar b1 b2]
theorem stmtOK_bd (vs ar : List Int) (b1 b2 : List St1) : ∀ (d : Nat) (s : St1), stmtOK ⟨vs, ar, b1⟩ d s = stmtOK ⟨vs, ar, b2⟩ d s
  | 0, _ => rfl
  | d + 1, .mk k t ix v c b e => by
    have h : stmtOK ⟨vs, ar, b1⟩ d = stmtOK ⟨vs, ar, b2⟩ d := funext (stmtOK_bd vs ar b1 b2 d)
    simp only [stmtOK, headOK, right_bd vs ar b1 b2, h]
theorem lsize_app (d : Nat) (a b : List St1) : lsize d (a ++ b) = lsize d a + lsize d b := by simp [lsize]
theorem progOK_sub {vs ar : List Int} {bd b2 : List St1} (h : progOK ⟨vs, ar, bd⟩ = true) (hs : ∀ s ∈ b2, s ∈ bd) (hl : lsize 5 b2 ≤ lsize 5 bd) : progOK ⟨vs, ar, b2⟩ = true := by
  simp only [progOK, Bool.and_eq_true, decide_eq_true_eq, List.all_eq_true] at h ⊢
  exact ⟨⟨h.1.1, fun s hx => by rw [stmtOK_bd vs ar b2 bd]; exact h.1.2 s (hs s hx)⟩, by omega⟩
end Go.Proofs.Ytmagbjbanpgmhaa.CtR
