/- Contracts of functions of the program, one behind the other, as plain data: what each call returns and which blocks it leaves. -/
import Derived.Test.YtmagbjbanpgmhaaGreatSFacts
import Derived.Test.YtmagbjbanpgmhaaGreatSAj
import Derived.Test.YtmagbjbanpgmhaaGreatSAk
import Derived.Test.YtmagbjbanpgmhaaGreatSAl
import Derived.Test.YtmagbjbanpgmhaaGreatSAn
import Derived.Test.YtmagbjbanpgmhaaGreatSAp
import Derived.Test.YtmagbjbanpgmhaaGreatSAq
import Derived.Test.YtmagbjbanpgmhaaGreatSAs
set_option linter.unusedVariables false
set_option linter.unusedSimpArgs false
set_option maxHeartbeats 16000000
set_option maxRecDepth 100000
namespace Go.Proofs.YtmagbjbanpgmhaaGreat.CtD
open Go Go.CT CtF CtR

theorem usesS0 (p : Pg) (L : List Bool) : DC Tryz.prog 100 [.agg p.cells, .agg (Ex.cells (.mk 0 0 [])), .c (.msl 0 1 0 L.length)] [some (boolsC L)] (fun r h => r = .tup [] ∧ h = [some (boolsC L)]) := by
  obtain ⟨vs, ar, bd⟩ := p
  generalize hR : (fun (r : D) (h : List (Option (List C))) => r = .tup [] ∧ h = [some (boolsC L)]) = R
  refine dcZ Tryz.func100 ?_
  simp (maxSteps := 9999999) only [go_sem, Ex.cellsL, Int.natCast_zero]
  iterate 3 ((try (refine drvZ Tryz.func100 ?_; simp (maxSteps := 9999999) only [go_sem, Ex.cellsL, Int.natCast_zero])); (try ((with_reducible refine And.intro ?_ ?_) <;> (repeat' with_reducible apply And.intro) <;> try exact sd)))
  refine Go.loop ?_
  have hz : ((0 : Int) < 0) = False := eq_false (by omega)
  refine drvL Tryz.func100 ?_
  simp (maxSteps := 9999999) only [go_sem, Ex.cellsL, Int.natCast_zero, hz]
  iterate 2 ((try (refine drvZ Tryz.func100 ?_; simp (maxSteps := 9999999) only [go_sem, Ex.cellsL, Int.natCast_zero, hz])); (try ((with_reducible refine And.intro ?_ ?_) <;> (repeat' with_reducible apply And.intro) <;> try exact sd)))
  refine RetOb.ofQ some [] (.tup []) [some (boolsC L)] ?_ (by rw [← hR]; exact ⟨rfl, rfl⟩) (by simp)
  simp [enumL, DM, DMs, HpOK, LowOK, hOf, upd, hpL]
  exact CMs.kf (boolsC_kf _)
theorem usesE {p : Pg} (hn : p.vars.length + p.arrays.length ≤ 14) {e : Ex} (h : CtR.shape p 5 e = true ∨ e = .mk 0 0 []) (L : List Bool) (hL : L.length = p.vars.length + p.arrays.length) :
    DC Tryz.prog 100 [.agg p.cells, .agg e.cells, .c (.msl 0 1 0 L.length)] [some (boolsC L)] (fun r h => r = .tup [] ∧ h = [some (boolsC (usesL p.vars.length 5 e L))]) := by
  rcases h with h | rfl
  · exact usesS p hn 5 e L h hL
  · exact usesS0 p L

def needS (nv : Nat) (f : List St1 → List Bool → Bool × List Bool) (L : List Bool) : St1 → Bool × List Bool
  | .mk k t ix v c b e =>
    let y := if k = 1 then (L.getD t.toNat false, L) else if k = 2 then (L.getD (nv + t.toNat) false, L) else if k = 5 then (true, L) else ((f b L).1 || (f e (f b L).2).1, (f e (f b L).2).2)
    (y.1, if y.1 then usesL nv 5 ix (usesL nv 5 v y.2) else y.2)
def needL (nv : Nat) : Nat → List St1 → List Bool → Bool × List Bool
  | 0, _, L => (false, L)
  | d + 1, l, L => l.foldl (fun x s => (x.1 || (needS nv (needL nv d) x.2 s).1, (needS nv (needL nv d) x.2 s).2)) (false, L)
theorem needS_len {nv : Nat} {f : List St1 → List Bool → Bool × List Bool} (hf : ∀ l L, (f l L).2.length = L.length) (L : List Bool) (s : St1) : (needS nv f L s).2.length = L.length := by
  obtain ⟨k, t, ix, v, c, b, e⟩ := s
  simp only [needS]
  have h1 : ∀ y : Bool × List Bool, y.2.length = L.length → (if y.1 then usesL nv 5 ix (usesL nv 5 v y.2) else y.2).length = L.length := fun y h => by
    split
    · rw [usesL_len, usesL_len, h]
    · exact h
  apply h1
  by_cases a1 : k = 1
  · rw [if_pos a1]
  rw [if_neg a1]
  by_cases a2 : k = 2
  · rw [if_pos a2]
  rw [if_neg a2]
  by_cases a5 : k = 5
  · rw [if_pos a5]
  rw [if_neg a5]
  simp only [hf]
theorem needL_len (nv : Nat) : ∀ (d : Nat) (l : List St1) (L : List Bool), (needL nv d l L).2.length = L.length
  | 0, l, L => rfl
  | d + 1, l, L => by
    have gen : ∀ (l : List St1) (x : Bool × List Bool), (l.foldl (fun x s => (x.1 || (needS nv (needL nv d) x.2 s).1, (needS nv (needL nv d) x.2 s).2)) x).2.length = x.2.length := fun l => by
      induction l with
      | nil => intro x; rfl
      | cons a r ih => intro x; rw [List.foldl_cons, ih, needS_len (needL_len nv d)]
    exact gen l (false, L)
theorem boolsC_at {L : List Bool} {i : Nat} (h : i < L.length) : (boolsC L)[i]? = some (.v (.bool (L.getD i false))) := by
  unfold boolsC
  rw [List.getElem?_map, List.getD_eq_getElem?_getD, List.getElem?_eq_getElem h]; rfl

theorem needsS (p : Pg) (hn : p.vars.length + p.arrays.length ≤ 14) : ∀ (d : Nat) (l : List St1) (L : List Bool), (∀ s ∈ l, stmtOK p d s = true) → lsize d l ≤ 1000 → L.length = p.vars.length + p.arrays.length →
    DC Tryz.prog 55 [.agg p.cells, .c (.isl 11 (St1.cellsL l)), .c (.msl 0 1 0 L.length)] [some (boolsC L)] (fun r h => r = DB (needL p.vars.length d l L).1 ∧ h = [some (boolsC (needL p.vars.length d l L).2)]) := by
  have hmx := mx_eq
  intro d
  induction d with
  | zero =>
    intro l L hok hsz hL
    have hnil : l = [] := by
      cases l with
      | nil => rfl
      | cons a r => have := hok a (by simp); simp [stmtOK] at this
    subst hnil
    obtain ⟨vs, ar, bd⟩ := p
    simp only [needL]
    generalize hR : (fun (r : D) (h : List (Option (List C))) => r = DB false ∧ h = [some (boolsC L)]) = R
    refine dcZ Tryz.func55 ?_
    simp (maxSteps := 9999999) only [go_sem, St1.cellsL, Int.natCast_zero]
    iterate 2 ((try (refine drvZ Tryz.func55 ?_; simp (maxSteps := 9999999) only [go_sem, St1.cellsL, Int.natCast_zero])); (try ((with_reducible refine And.intro ?_ ?_) <;> (repeat' with_reducible apply And.intro) <;> try exact sd)))
    refine Go.loop ?_
    have hz : ((0 : Int) < 0) = False := eq_false (by omega)
    refine drvL Tryz.func55 ?_
    simp (maxSteps := 9999999) only [go_sem, St1.cellsL, Int.natCast_zero, hz]
    iterate 2 ((try (refine drvZ Tryz.func55 ?_; simp (maxSteps := 9999999) only [go_sem, St1.cellsL, Int.natCast_zero, hz])); (try ((with_reducible refine And.intro ?_ ?_) <;> (repeat' with_reducible apply And.intro) <;> try exact sd)))
    refine RetOb.ofQ some [] (DB false) [some (boolsC L)] ?_ (by rw [← hR]; exact ⟨rfl, rfl⟩) (by simp)
    simp [enumL, hOf, DM, CM, HpOK, LowOK, upd, hpL]
    exact CMs.kf (boolsC_kf _)
  | succ d ih =>
    intro l L hok hsz hL
    have hsub := lsize_subs d l
    have hus := fun e h L hL => @usesE p hn e h L hL
    have hnl := fun l => needL_len p.vars.length d l
    obtain ⟨F, hF⟩ : ∃ F : Nat → Bool × List Bool, ∀ i, F i = (l.take i).foldl (fun x s => (x.1 || (needS p.vars.length (needL p.vars.length d) x.2 s).1, (needS p.vars.length (needL p.vars.length d) x.2 s).2)) (false, L) := ⟨_, fun _ => rfl⟩
    have hF0 : F 0 = (false, L) := by rw [hF]; simp
    have hFs : ∀ {i : Nat} {s : St1}, l[i]? = some s → F (i + 1) = ((F i).1 || (needS p.vars.length (needL p.vars.length d) (F i).2 s).1, (needS p.vars.length (needL p.vars.length d) (F i).2 s).2) := fun {i s} h => by
      rw [hF (i + 1), List.take_add_one, h, hF i]; simp
    have hFe : needL p.vars.length (d + 1) l L = F l.length := by rw [hF, List.take_length]; rfl
    have hFl : ∀ i, (F i).2.length = L.length := fun i => by
      rw [hF]
      have gen : ∀ (l : List St1) (x : Bool × List Bool), (l.foldl (fun x s => (x.1 || (needS p.vars.length (needL p.vars.length d) x.2 s).1, (needS p.vars.length (needL p.vars.length d) x.2 s).2)) x).2.length = x.2.length := fun l => by
        induction l with
        | nil => intro x; rfl
        | cons a r ih => intro x; rw [List.foldl_cons, ih, needS_len (needL_len _ d)]
      exact gen _ _
    clear hF
    rw [hFe]
    obtain ⟨vs, ar, bd⟩ := p
    have hn : vs.length + ar.length ≤ 14 := hn
    have hL : L.length = vs.length + ar.length := hL
    simp only at hus hnl hFs ih
    generalize hR : (fun (r : D) (h : List (Option (List C))) => r = DB (F l.length).1 ∧ h = [some (boolsC (F l.length).2)]) = R
    refine dcZ Tryz.func55 ?_
    simp (maxSteps := 9999999) only [go_sem]
    ((try (refine drvZ Tryz.func55 ?_; simp (maxSteps := 9999999) only [go_sem])); (try ((with_reducible refine And.intro ?_ ?_) <;> (repeat' with_reducible apply And.intro) <;> try exact sd)))
    refine Go.loopQ (fun i : Nat => [(1, .c (.isl 11 (St1.cellsL l))), (2, .c (.msl 0 1 0 L.length)), (3, .c (.ptr 1 0)), (7, DB (F i).1), (8, DI .i64 i)])
      (fun i => [(0, some (boolsC (F i).2)), (1, some (Pg.cells ⟨vs, ar, bd⟩))]) 4096 (fun i => i ≤ l.length) (fun i => l.length - i) ?_ 0 some [] _ (Nat.zero_le _) ?_
    · intro i hi again
      have hFi := hFl i
      rcases Nat.lt_or_ge i l.length with hlt | hge
      · obtain ⟨⟨k, t, ⟨ik, iv, iks⟩, ⟨vk, vv, vks⟩, c, b, e⟩, hx⟩ : ∃ x, l[i]? = some x := ⟨l[i], by simp [hlt]⟩
        have hsok := hok _ (List.mem_of_getElem? hx)
        have hex := exprs_of hsok
        have hbe := stmtOK_succ hsok
        have hhk := head_kind hbe.1
        simp only at hhk
        have a1 := tsum_succ (subs d) l i _ hx
        have a2 := tsum_le (subs d) l (i + 1)
        simp only [subs, St1.body, St1.els] at a1 a2
        have hs := hFs hx
        have hFn := hFl (i + 1)

        generalize F i = Fi at *
        obtain ⟨so, Li⟩ := Fi
        simp only at hFi hs
        have hat := @boolsC_at Li
        have key : k = 5 ∨ k = 1 ∨ k = 2 ∨ (k ≠ 5 ∧ k ≠ 1 ∧ k ≠ 2) := by omega
        rcases key with hk | hk | hk | ⟨hk5, hk1, hk2⟩
        · subst hk
          have hFE : F (i + 1) = (true, usesL vs.length 5 (.mk ik iv iks) (usesL vs.length 5 (.mk vk vv vks) Li)) := by rw [hs]; simp [needS]
          refine drvL Tryz.func55 ?_
          simp (maxSteps := 9999999) only [go_sem, hx, hlt]
          iterate 9 ((try (refine drvZ Tryz.func55 ?_; simp (maxSteps := 9999999) only [go_sem, hx, hlt])); (try ((with_reducible refine And.intro ?_ ?_) <;> (repeat' with_reducible apply And.intro) <;> try exact sd)))
          have u1 := hus _ hex.2 Li (by omega)
          have u2 := hus _ hex.1 (usesL vs.length 5 (.mk vk vv vks) Li) (by rw [usesL_len]; omega)
          rw [usesL_len] at u2
          rw [hFi] at u1 u2
          refine XK.callG [0] u1 ok100 (hhp_one (by simp [hOf, upd, boolsC_ren])) (hbT ()) (fun d h' ⟨_, e⟩ => by subst e; simp) ?_ (fun _ => ⟨by kernel_rfl, _, _, ⟨rfl, rfl⟩, by simp⟩)
          rintro _ _ ⟨rfl, rfl⟩ _
          iterate 3 ((try (refine drvZ Tryz.func55 ?_; simp (maxSteps := 9999999) only [go_sem, boolsC_ren])); (try ((with_reducible refine And.intro ?_ ?_) <;> (repeat' with_reducible apply And.intro) <;> try exact sd)))
          refine XK.callG [0] u2 ok100 (hhp_one (by simp [hOf, upd, boolsC_ren])) (hbT ()) (fun d h' ⟨_, e⟩ => by subst e; simp) ?_ (fun _ => ⟨by kernel_rfl, _, _, ⟨rfl, rfl⟩, by simp⟩)
          rintro _ _ ⟨rfl, rfl⟩ _
          cases so <;> (iterate 4 ((try (refine drvZ Tryz.func55 ?_; simp (maxSteps := 9999999) only [go_sem, boolsC_ren])); (try ((with_reducible refine And.intro ?_ ?_) <;> (repeat' with_reducible apply And.intro) <;> try exact sd))))
          all_goals
            refine again (i + 1) some [] _ hlt (by omega) ?_
            rw [hFE]
            simp (maxSteps := 9999999) only [go_sem, TmOK, DM, DMs, CM, CMs, forall_eq, exists_eq_left, Mq, HpOK, LowOK, List.cons_append, List.nil_append]
            simp
            exact CMs.kf (boolsC_kf _)
        · subst hk
          have ht : 0 ≤ t ∧ t < (vs.length : Int) := by omega
          have hpos : ((vs.length : Int) + t).toNat = vs.length + t.toNat := by omega
          have hat := hat (i := t.toNat) (by omega)
          cases hq : Li.getD t.toNat false with
          | true =>
            rw [hq] at hat
            have hFE : F (i + 1) = (true, usesL vs.length 5 (.mk ik iv iks) (usesL vs.length 5 (.mk vk vv vks) Li)) := by rw [hs]; simp only [needS, hq, Int.reduceEq, if_true, if_false, Bool.or_true, Bool.or_false, Bool.false_eq_true]
            refine drvL Tryz.func55 ?_
            simp (maxSteps := 9999999) only [go_sem, hx, hlt]
            iterate 9 ((try (refine drvZ Tryz.func55 ?_; simp (maxSteps := 9999999) only [go_sem, hx, hlt, hat, hpos])); (try ((with_reducible refine And.intro ?_ ?_) <;> (repeat' with_reducible apply And.intro) <;> try exact sd)))
            have u1 := hus _ hex.2 Li (by omega)
            have u2 := hus _ hex.1 (usesL vs.length 5 (.mk vk vv vks) Li) (by rw [usesL_len]; omega)
            rw [usesL_len] at u2
            rw [hFi] at u1 u2
            refine XK.callG [0] u1 ok100 (hhp_one (by simp [hOf, upd, boolsC_ren])) (hbT ()) (fun d h' ⟨_, e⟩ => by subst e; simp) ?_ (fun _ => ⟨by kernel_rfl, _, _, ⟨rfl, rfl⟩, by simp⟩)
            rintro _ _ ⟨rfl, rfl⟩ _
            iterate 3 ((try (refine drvZ Tryz.func55 ?_; simp (maxSteps := 9999999) only [go_sem, boolsC_ren])); (try ((with_reducible refine And.intro ?_ ?_) <;> (repeat' with_reducible apply And.intro) <;> try exact sd)))
            refine XK.callG [0] u2 ok100 (hhp_one (by simp [hOf, upd, boolsC_ren])) (hbT ()) (fun d h' ⟨_, e⟩ => by subst e; simp) ?_ (fun _ => ⟨by kernel_rfl, _, _, ⟨rfl, rfl⟩, by simp⟩)
            rintro _ _ ⟨rfl, rfl⟩ _
            cases so <;> (iterate 4 ((try (refine drvZ Tryz.func55 ?_; simp (maxSteps := 9999999) only [go_sem, boolsC_ren])); (try ((with_reducible refine And.intro ?_ ?_) <;> (repeat' with_reducible apply And.intro) <;> try exact sd))))
            all_goals
              refine again (i + 1) some [] _ hlt (by omega) ?_
              rw [hFE]
              simp (maxSteps := 9999999) only [go_sem, TmOK, DM, DMs, CM, CMs, forall_eq, exists_eq_left, Mq, HpOK, LowOK, List.cons_append, List.nil_append]
              simp
              exact CMs.kf (boolsC_kf _)
          | false =>
            rw [hq] at hat
            have hFE : F (i + 1) = (so, Li) := by rw [hs]; simp only [needS, hq, Int.reduceEq, if_true, if_false, Bool.or_true, Bool.or_false, Bool.false_eq_true]
            refine drvL Tryz.func55 ?_
            simp (maxSteps := 9999999) only [go_sem, hx, hlt]
            cases so <;> (iterate 9 ((try (refine drvZ Tryz.func55 ?_; simp (maxSteps := 9999999) only [go_sem, hx, hlt, hat, hpos])); (try ((with_reducible refine And.intro ?_ ?_) <;> (repeat' with_reducible apply And.intro) <;> try exact sd))))
            all_goals
              refine again (i + 1) some [] _ hlt (by omega) ?_
              rw [hFE]
              simp (maxSteps := 9999999) only [go_sem, TmOK, DM, DMs, CM, CMs, forall_eq, exists_eq_left, Mq, HpOK, LowOK, List.cons_append, List.nil_append]
              simp
              exact CMs.kf (boolsC_kf _)
        · subst hk
          have ht : 0 ≤ t ∧ t < (ar.length : Int) := by omega
          have hpos : ((vs.length : Int) + t).toNat = vs.length + t.toNat := by omega
          have hat := hat (i := (vs.length + t.toNat)) (by omega)
          cases hq : Li.getD (vs.length + t.toNat) false with
          | true =>
            rw [hq] at hat
            have hFE : F (i + 1) = (true, usesL vs.length 5 (.mk ik iv iks) (usesL vs.length 5 (.mk vk vv vks) Li)) := by rw [hs]; simp only [needS, hq, Int.reduceEq, if_true, if_false, Bool.or_true, Bool.or_false, Bool.false_eq_true]
            refine drvL Tryz.func55 ?_
            simp (maxSteps := 9999999) only [go_sem, hx, hlt]
            iterate 9 ((try (refine drvZ Tryz.func55 ?_; simp (maxSteps := 9999999) only [go_sem, hx, hlt, hat, hpos])); (try ((with_reducible refine And.intro ?_ ?_) <;> (repeat' with_reducible apply And.intro) <;> try exact sd)))
            have u1 := hus _ hex.2 Li (by omega)
            have u2 := hus _ hex.1 (usesL vs.length 5 (.mk vk vv vks) Li) (by rw [usesL_len]; omega)
            rw [usesL_len] at u2
            rw [hFi] at u1 u2
            refine XK.callG [0] u1 ok100 (hhp_one (by simp [hOf, upd, boolsC_ren])) (hbT ()) (fun d h' ⟨_, e⟩ => by subst e; simp) ?_ (fun _ => ⟨by kernel_rfl, _, _, ⟨rfl, rfl⟩, by simp⟩)
            rintro _ _ ⟨rfl, rfl⟩ _
            iterate 3 ((try (refine drvZ Tryz.func55 ?_; simp (maxSteps := 9999999) only [go_sem, boolsC_ren])); (try ((with_reducible refine And.intro ?_ ?_) <;> (repeat' with_reducible apply And.intro) <;> try exact sd)))
            refine XK.callG [0] u2 ok100 (hhp_one (by simp [hOf, upd, boolsC_ren])) (hbT ()) (fun d h' ⟨_, e⟩ => by subst e; simp) ?_ (fun _ => ⟨by kernel_rfl, _, _, ⟨rfl, rfl⟩, by simp⟩)
            rintro _ _ ⟨rfl, rfl⟩ _
            cases so <;> (iterate 4 ((try (refine drvZ Tryz.func55 ?_; simp (maxSteps := 9999999) only [go_sem, boolsC_ren])); (try ((with_reducible refine And.intro ?_ ?_) <;> (repeat' with_reducible apply And.intro) <;> try exact sd))))
            all_goals
              refine again (i + 1) some [] _ hlt (by omega) ?_
              rw [hFE]
              simp (maxSteps := 9999999) only [go_sem, TmOK, DM, DMs, CM, CMs, forall_eq, exists_eq_left, Mq, HpOK, LowOK, List.cons_append, List.nil_append]
              simp
              exact CMs.kf (boolsC_kf _)
          | false =>
            rw [hq] at hat
            have hFE : F (i + 1) = (so, Li) := by rw [hs]; simp only [needS, hq, Int.reduceEq, if_true, if_false, Bool.or_true, Bool.or_false, Bool.false_eq_true]
            refine drvL Tryz.func55 ?_
            simp (maxSteps := 9999999) only [go_sem, hx, hlt]
            cases so <;> (iterate 9 ((try (refine drvZ Tryz.func55 ?_; simp (maxSteps := 9999999) only [go_sem, hx, hlt, hat, hpos])); (try ((with_reducible refine And.intro ?_ ?_) <;> (repeat' with_reducible apply And.intro) <;> try exact sd))))
            all_goals
              refine again (i + 1) some [] _ hlt (by omega) ?_
              rw [hFE]
              simp (maxSteps := 9999999) only [go_sem, TmOK, DM, DMs, CM, CMs, forall_eq, exists_eq_left, Mq, HpOK, LowOK, List.cons_append, List.nil_append]
              simp
              exact CMs.kf (boolsC_kf _)
        · have e5 : (k == 5) = false := by simp [hk5]
          have e1 : (k == 1) = false := by simp [hk1]
          have e2 : (k == 2) = false := by simp [hk2]
          have ihb := ih b Li hbe.2.1 (by omega) (by omega)
          have hn1 := hnl b Li
          have hnd : needS vs.length (needL vs.length d) Li (.mk k t (.mk ik iv iks) (.mk vk vv vks) c b e) = ((needL vs.length d b Li).1 || (needL vs.length d e (needL vs.length d b Li).2).1, if ((needL vs.length d b Li).1 || (needL vs.length d e (needL vs.length d b Li).2).1) then usesL vs.length 5 (.mk ik iv iks) (usesL vs.length 5 (.mk vk vv vks) (needL vs.length d e (needL vs.length d b Li).2).2) else (needL vs.length d e (needL vs.length d b Li).2).2) := by simp [needS, hk5, hk1, hk2]
          rw [hnd] at hs
          generalize needL vs.length d b Li = y1 at *
          obtain ⟨yb, L1⟩ := y1
          simp only at hn1 hs ihb
          have ihe := ih e L1 hbe.2.2 (by omega) (by omega)
          have hn2 := hnl e L1
          generalize needL vs.length d e L1 = y2 at *
          obtain ⟨ye, L2⟩ := y2
          simp only at hn2 hs ihe
          rw [hFi] at ihb
          rw [hn1, hFi] at ihe
          have hL2 : L2.length = L.length := by omega
          refine drvL Tryz.func55 ?_
          simp (maxSteps := 9999999) only [go_sem, hx, hlt, e5, e1, e2, hk5, hk1, hk2]
          iterate 8 ((try (refine drvZ Tryz.func55 ?_; simp (maxSteps := 9999999) only [go_sem, hx, hlt, e5, e1, e2, hk5, hk1, hk2])); (try ((with_reducible refine And.intro ?_ ?_) <;> (repeat' with_reducible apply And.intro) <;> try exact sd)))
          refine XK.callG [0] ihb ok55 (hhp_one (by simp [hOf, upd, boolsC_ren])) (hbT ()) (fun d h' ⟨_, e⟩ => by subst e; simp) ?_ (fun _ => ⟨by kernel_rfl, _, _, ⟨rfl, rfl⟩, by simp⟩)
          rintro _ _ ⟨rfl, rfl⟩ _
          iterate 3 ((try (refine drvZ Tryz.func55 ?_; simp (maxSteps := 9999999) only [go_sem, boolsC_ren])); (try ((with_reducible refine And.intro ?_ ?_) <;> (repeat' with_reducible apply And.intro) <;> try exact sd)))
          refine XK.callG [0] ihe ok55 (hhp_one (by simp [hOf, upd, boolsC_ren])) (hbT ()) (fun d h' ⟨_, e⟩ => by subst e; simp) ?_ (fun _ => ⟨by kernel_rfl, _, _, ⟨rfl, rfl⟩, by simp⟩)
          rintro _ _ ⟨rfl, rfl⟩ _
          by_cases hor : (yb || ye) = true
          · have hFE : F (i + 1) = (true, usesL vs.length 5 (.mk ik iv iks) (usesL vs.length 5 (.mk vk vv vks) L2)) := by rw [hs]; simp [hor]
            have hc : yb = true ∨ (yb = false ∧ ye = true) := by cases yb <;> simp_all
            rcases hc with rfl | ⟨rfl, rfl⟩
            all_goals
              iterate 4 ((try (refine drvZ Tryz.func55 ?_; simp (maxSteps := 9999999) only [go_sem, boolsC_ren])); (try ((with_reducible refine And.intro ?_ ?_) <;> (repeat' with_reducible apply And.intro) <;> try exact sd)))
              have u1 := hus _ hex.2 L2 (by omega)
              have u2 := hus _ hex.1 (usesL vs.length 5 (.mk vk vv vks) L2) (by rw [usesL_len]; omega)
              rw [usesL_len] at u2
              rw [hL2] at u1 u2
              refine XK.callG [0] u1 ok100 (hhp_one (by simp [hOf, upd, boolsC_ren])) (hbT ()) (fun d h' ⟨_, e⟩ => by subst e; simp) ?_ (fun _ => ⟨by kernel_rfl, _, _, ⟨rfl, rfl⟩, by simp⟩)
              rintro _ _ ⟨rfl, rfl⟩ _
              iterate 3 ((try (refine drvZ Tryz.func55 ?_; simp (maxSteps := 9999999) only [go_sem, boolsC_ren])); (try ((with_reducible refine And.intro ?_ ?_) <;> (repeat' with_reducible apply And.intro) <;> try exact sd)))
              refine XK.callG [0] u2 ok100 (hhp_one (by simp [hOf, upd, boolsC_ren])) (hbT ()) (fun d h' ⟨_, e⟩ => by subst e; simp) ?_ (fun _ => ⟨by kernel_rfl, _, _, ⟨rfl, rfl⟩, by simp⟩)
              rintro _ _ ⟨rfl, rfl⟩ _
              cases so <;> (iterate 4 ((try (refine drvZ Tryz.func55 ?_; simp (maxSteps := 9999999) only [go_sem, boolsC_ren])); (try ((with_reducible refine And.intro ?_ ?_) <;> (repeat' with_reducible apply And.intro) <;> try exact sd))))
              all_goals
                refine again (i + 1) some [] _ hlt (by omega) ?_
                rw [hFE]
                simp (maxSteps := 9999999) only [go_sem, TmOK, DM, DMs, CM, CMs, forall_eq, exists_eq_left, Mq, HpOK, LowOK, List.cons_append, List.nil_append]
                simp
                exact CMs.kf (boolsC_kf _)
          · have hc : yb = false ∧ ye = false := by cases yb <;> cases ye <;> simp_all
            obtain ⟨rfl, rfl⟩ := hc
            have hFE : F (i + 1) = (so, L2) := by rw [hs]; simp
            cases so <;> (iterate 6 ((try (refine drvZ Tryz.func55 ?_; simp (maxSteps := 9999999) only [go_sem, boolsC_ren])); (try ((with_reducible refine And.intro ?_ ?_) <;> (repeat' with_reducible apply And.intro) <;> try exact sd))))
            all_goals
              refine again (i + 1) some [] _ hlt (by omega) ?_
              rw [hFE]
              simp (maxSteps := 9999999) only [go_sem, TmOK, DM, DMs, CM, CMs, forall_eq, exists_eq_left, Mq, HpOK, LowOK, List.cons_append, List.nil_append]
              simp
              exact CMs.kf (boolsC_kf _)
      · have hn2 : ¬ i < l.length := by omega
        obtain rfl : i = l.length := by omega
        generalize F l.length = Fe at *
        refine drvL Tryz.func55 ?_
        simp (maxSteps := 9999999) only [go_sem, hn2]
        iterate 2 ((try (refine drvZ Tryz.func55 ?_; simp (maxSteps := 9999999) only [go_sem, hn2])); (try ((with_reducible refine And.intro ?_ ?_) <;> (repeat' with_reducible apply And.intro) <;> try exact sd)))
        refine RetOb.ofQ some [] (DB Fe.1) [some (boolsC Fe.2)] ?_ (by rw [← hR]; exact ⟨rfl, rfl⟩) (by simp)
        simp [enumL, DM, DMs, CM, HpOK, LowOK, hOf, upd]
        exact CMs.kf (boolsC_kf _)
    · simp (maxSteps := 9999999) only [go_sem, TmOK, DM, DMs, CM, CMs, forall_eq, exists_eq_left, Mq, HpOK, LowOK, hF0]
      simp
      exact CMs.kf (boolsC_kf _)
end Go.Proofs.YtmagbjbanpgmhaaGreat.CtD

namespace Go.Proofs.YtmagbjbanpgmhaaGreat.CtD
open Go Go.CT CtF CtR

def jnA (L M : List Bool) : Nat → Bool × List Bool
  | 0 => (false, L)
  | i + 1 => if M.getD i false && !(jnA L M i).2.getD i false then (true, (jnA L M i).2.set i true) else jnA L M i
theorem jnA_len (L M : List Bool) : ∀ i, (jnA L M i).2.length = L.length
  | 0 => rfl
  | i + 1 => by
    rw [jnA]
    split
    · simp [jnA_len L M i]
    · exact jnA_len L M i
theorem jnA_hi (L M : List Bool) : ∀ i j, i ≤ j → (jnA L M i).2.getD j false = L.getD j false
  | 0, j, _ => rfl
  | i + 1, j, h => by
    rw [jnA]
    split
    · rw [← jnA_hi L M i j (by omega)]
      simp only [List.getD_eq_getElem?_getD]
      rw [List.getElem?_set_ne (by omega)]
    · exact jnA_hi L M i j (by omega)
theorem jnA_iff (L M : List Bool) : ∀ i, (jnA L M i).1 = true ↔ ∃ j, j < i ∧ M.getD j false = true ∧ L.getD j false = false
  | 0 => by simp [jnA]
  | i + 1 => by
    have h := jnA_iff L M i
    have h2 := jnA_hi L M i i (Nat.le_refl _)
    rw [jnA, h2]
    cases hm : M.getD i false with
    | false =>
      simp only [Bool.false_and, Bool.false_eq_true, if_false]
      rw [h]
      constructor
      · rintro ⟨j, a, b, c⟩; exact ⟨j, by omega, b, c⟩
      · rintro ⟨j, a, b, c⟩
        refine ⟨j, ?_, b, c⟩
        rcases Nat.lt_or_eq_of_le (Nat.le_of_lt_succ a) with h | rfl
        · exact h
        · rw [hm] at b; cases b
    | true =>
      cases hl : L.getD i false with
      | true =>
        simp only [Bool.true_and, Bool.not_true, Bool.false_eq_true, if_false]
        rw [h]
        constructor
        · rintro ⟨j, a, b, c⟩; exact ⟨j, by omega, b, c⟩
        · rintro ⟨j, a, b, c⟩
          refine ⟨j, ?_, b, c⟩
          rcases Nat.lt_or_eq_of_le (Nat.le_of_lt_succ a) with h | rfl
          · exact h
          · rw [hl] at c; cases c
      | false =>
        simp only [Bool.true_and, Bool.not_false, if_true, true_iff]
        exact ⟨i, by omega, hm, hl⟩

theorem joinS (L M : List Bool) (hl : L.length ≤ 1000) (hM : M.length = L.length) :
    DC Tryz.prog 56 [.c (.msl 0 1 0 L.length), .c (.msl 1 1 0 L.length)] [some (boolsC L), some (boolsC M)] (fun r h => r = DB (jnA L M L.length).1 ∧ h = [some (boolsC (jnA L M L.length).2), some (boolsC M)]) := by
  have hmx := mx_eq
  have hfl := jnA_len L M
  generalize hR : (fun (r : D) (h : List (Option (List C))) => r = DB (jnA L M L.length).1 ∧ h = [some (boolsC (jnA L M L.length).2), some (boolsC M)]) = R
  refine dcZ Tryz.func56 ?_
  simp (maxSteps := 9999999) only [go_sem]
  ((try (refine drvZ Tryz.func56 ?_; simp (maxSteps := 9999999) only [go_sem])); (try ((with_reducible refine And.intro ?_ ?_) <;> (repeat' with_reducible apply And.intro) <;> try exact sd)))
  refine Go.loopQ (fun i : Nat => [(0, .c (.msl 0 1 0 L.length)), (1, .c (.msl 1 1 0 L.length)), (5, DB (jnA L M i).1), (6, DI .i64 i)])
    (fun i => [(0, some (boolsC (jnA L M i).2)), (1, some (boolsC M))]) 4096 (fun i => i ≤ L.length) (fun i => L.length - i) ?_ 0 some [] _ (Nat.zero_le _) ?_
  · intro i hi again
    have hFi := hfl i
    rcases Nat.lt_or_ge i L.length with hlt | hge
    · have a1 := @boolsC_at M i (by omega)
      have a2 := @boolsC_at (jnA L M i).2 i (by omega)
      have hs : jnA L M (i + 1) = if M.getD i false && !(jnA L M i).2.getD i false then (true, (jnA L M i).2.set i true) else jnA L M i := rfl
      have hbl := boolsC_len (jnA L M i).2
      rw [hFi] at hbl
      generalize jnA L M i = Fi at *
      obtain ⟨c, Li⟩ := Fi
      simp only at hFi hs a2 hbl
      cases hm : M.getD i false with
      | false =>
        rw [hm] at a1 hs
        simp only [Bool.false_and, Bool.false_eq_true, if_false] at hs
        refine drvL Tryz.func56 ?_
        simp (maxSteps := 9999999) only [go_sem, hlt, a1, a2]
        iterate 4 ((try (refine drvZ Tryz.func56 ?_; simp (maxSteps := 9999999) only [go_sem, hlt, a1, a2])); (try ((with_reducible refine And.intro ?_ ?_) <;> (repeat' with_reducible apply And.intro) <;> try exact sd)))
        refine again (i + 1) some [] _ hlt (by omega) ?_
        rw [hs]
        simp (maxSteps := 9999999) only [go_sem, TmOK, DM, DMs, CM, CMs, forall_eq, exists_eq_left, Mq, HpOK, LowOK]
        simp
        exact ⟨CMs.kf (boolsC_kf _), CMs.kf (boolsC_kf _)⟩
      | true =>
        rw [hm] at a1 hs
        cases hq : Li.getD i false with
        | true =>
          rw [hq] at a2 hs
          simp only [Bool.true_and, Bool.not_true, Bool.false_eq_true, if_false] at hs
          refine drvL Tryz.func56 ?_
          simp (maxSteps := 9999999) only [go_sem, hlt, a1, a2]
          iterate 4 ((try (refine drvZ Tryz.func56 ?_; simp (maxSteps := 9999999) only [go_sem, hlt, a1, a2])); (try ((with_reducible refine And.intro ?_ ?_) <;> (repeat' with_reducible apply And.intro) <;> try exact sd)))
          refine again (i + 1) some [] _ hlt (by omega) ?_
          rw [hs]
          simp (maxSteps := 9999999) only [go_sem, TmOK, DM, DMs, CM, CMs, forall_eq, exists_eq_left, Mq, HpOK, LowOK]
          simp
          exact ⟨CMs.kf (boolsC_kf _), CMs.kf (boolsC_kf _)⟩
        | false =>
          rw [hq] at a2 hs
          simp only [Bool.true_and, Bool.not_false, if_true] at hs
          refine drvL Tryz.func56 ?_
          simp (maxSteps := 9999999) only [go_sem, hlt, a1, a2]
          iterate 5 ((try (refine drvZ Tryz.func56 ?_; simp (maxSteps := 9999999) only [go_sem, hlt, a1, a2, boolsC_set, hbl])); (try ((with_reducible refine And.intro ?_ ?_) <;> (repeat' with_reducible apply And.intro) <;> try exact sd)))
          refine again (i + 1) some [] _ hlt (by omega) ?_
          rw [hs]
          simp (maxSteps := 9999999) only [go_sem, TmOK, DM, DMs, CM, CMs, forall_eq, exists_eq_left, Mq, HpOK, LowOK]
          simp
          exact ⟨CMs.kf (boolsC_kf _), CMs.kf (boolsC_kf _)⟩
    · have hn2 : ¬ i < L.length := by omega
      obtain rfl : i = L.length := by omega
      refine drvL Tryz.func56 ?_
      simp (maxSteps := 9999999) only [go_sem, hn2]
      iterate 2 ((try (refine drvZ Tryz.func56 ?_; simp (maxSteps := 9999999) only [go_sem, hn2])); (try ((with_reducible refine And.intro ?_ ?_) <;> (repeat' with_reducible apply And.intro) <;> try exact sd)))
      refine RetOb.ofQ some [] (DB (jnA L M L.length).1) [some (boolsC (jnA L M L.length).2), some (boolsC M)] ?_ (by rw [← hR]; exact ⟨rfl, rfl⟩) (by simp)
      simp [enumL, DM, DMs, CM, HpOK, LowOK, hOf, upd]
      exact ⟨CMs.kf (boolsC_kf _), CMs.kf (boolsC_kf _)⟩
  · simp (maxSteps := 9999999) only [go_sem, TmOK, DM, DMs, CM, CMs, forall_eq, exists_eq_left, Mq, HpOK, LowOK, jnA]
    simp
    exact ⟨CMs.kf (boolsC_kf _), CMs.kf (boolsC_kf _)⟩
end Go.Proofs.YtmagbjbanpgmhaaGreat.CtD
