/- Contracts of functions of the program, one behind the other, as plain data: what each call returns and which blocks it leaves. -/
import Derived.Test.YtmagbjbanpgmhaaGreatSFacts
import Derived.Test.YtmagbjbanpgmhaaGreatSAj
import Derived.Test.YtmagbjbanpgmhaaGreatSAk
import Derived.Test.YtmagbjbanpgmhaaGreatSAl
import Derived.Test.YtmagbjbanpgmhaaGreatSAm
import Derived.Test.YtmagbjbanpgmhaaGreatSAn
import Derived.Test.YtmagbjbanpgmhaaGreatSAo
import Derived.Test.YtmagbjbanpgmhaaGreatSAp
import Derived.Test.YtmagbjbanpgmhaaGreatSAq
import Derived.Test.YtmagbjbanpgmhaaGreatSAr
import Derived.Test.YtmagbjbanpgmhaaGreatSAs
import Derived.Test.YtmagbjbanpgmhaaGreatSAt
set_option linter.unusedVariables false
set_option linter.unusedSimpArgs false
set_option maxHeartbeats 16000000
set_option maxRecDepth 100000
namespace Go.Proofs.YtmagbjbanpgmhaaGreat.CtD
open Go Go.CT CtF CtR

theorem SmE_shape {p : Pg} : ∀ (d : Nat) (e : Ex), CtR.shape p d e = true → SmE e
  | 0, e, h => by simp [CtR.shape] at h
  | d + 1, .mk k v ks, h => by
    obtain ⟨g1, g2, g3⟩ := shape_succ h
    exact .mk k v ks (fits_len g1).1 fun x hx => SmE_shape d x (g2 x hx)
theorem SmE_of {p : Pg} {e : Ex} (h : CtR.shape p 5 e = true ∨ e = .mk 0 0 []) : SmE e := by
  rcases h with h | rfl
  · exact SmE_shape 5 e h
  · exact .mk 0 0 [] (by simp) (fun x h => by simp at h)
theorem head_leaf {p : Pg} {k t : Int} {ix v : Ex} {c : Int} {b e : List St1} (h : headOK p k t ix v c b.length e.length = true) (hk : k = 5 ∨ k = 1 ∨ k = 2) : b = [] ∧ e = [] := by
  have g : b.length = 0 ∧ e.length = 0 := by
    unfold headOK parts blk at h
    rcases hk with rfl | rfl | rfl <;> simp at h <;> grind
  exact ⟨List.eq_nil_of_length_eq_zero g.1, List.eq_nil_of_length_eq_zero g.2⟩
theorem head_blk {p : Pg} {k t : Int} {ix v : Ex} {c : Int} {bn en : Nat} (h : headOK p k t ix v c bn en = true) (h5 : k ≠ 5) (h1 : k ≠ 1) (h2 : k ≠ 2) : t = 0 := by
  have hk := head_kind h
  have : k = 3 ∨ k = 4 := by omega
  unfold headOK parts blk at h
  rcases this with rfl | rfl <;> simp at h <;> grind
theorem cutL_nil (q : Nat → Bool) (nv d : Nat) : cutL q nv d [] = [] := by cases d <;> simp [cutL]
theorem bools_at {L : List Bool} {i : Nat} (h : i < L.length) : L[i]? = some (L.getD i false) := by
  rw [List.getD_eq_getElem?_getD, List.getElem?_eq_getElem h]; rfl

theorem cutSp (p : Pg) (hn : p.vars.length + p.arrays.length ≤ 14) (hv : 1 ≤ p.vars.length) (L : List Bool) (hL : L.length = p.vars.length + p.arrays.length) : ∀ (d : Nat) (l : List St1), (∀ s ∈ l, stmtOK p d s = true) → lsize d l ≤ 1000 →
    DC Tryz.prog 57 [.agg p.cells, .c (.isl 11 (St1.cellsL l)), .c (boolsD L)] [] (fun r h => r = .c (.isl 11 (St1.cellsL (cutL (fun i => L.getD i false) p.vars.length d l))) ∧ h = []) := by
  have hmx := mx_eq
  intro d
  induction d with
  | zero =>
    intro l hok hsz
    have hnil : l = [] := by
      cases l with
      | nil => rfl
      | cons a r => have := hok a (by simp); simp [stmtOK] at this
    subst hnil
    obtain ⟨vs, ar, bd⟩ := p
    refine dcZ Tryz.func57 ?_
    simp (maxSteps := 9999999) only [go_sem, St1.cellsL, Int.natCast_zero]
    iterate 2 ((try (refine drvZ Tryz.func57 ?_; simp (maxSteps := 9999999) only [go_sem, St1.cellsL, Int.natCast_zero])); (try ((with_reducible refine And.intro ?_ ?_) <;> (repeat' with_reducible apply And.intro) <;> try exact sd)))
    refine Go.loop ?_
    have hz : ((0 : Int) < 0) = False := eq_false (by omega)
    refine drvL Tryz.func57 ?_
    simp (maxSteps := 9999999) only [go_sem, St1.cellsL, Int.natCast_zero, hz]
    iterate 2 ((try (refine drvZ Tryz.func57 ?_; simp (maxSteps := 9999999) only [go_sem, St1.cellsL, Int.natCast_zero, hz])); (try ((with_reducible refine And.intro ?_ ?_) <;> (repeat' with_reducible apply And.intro) <;> try exact sd)))
    refine RetOb.ofQ (fun j => none) [128] (.c (.isl 11 [])) [] ?_ ⟨by simp [cutL, St1.cellsL], rfl⟩ (by simp)
    simp [enumL, hOf, DM, DMs, CM, HpOK, LowOK, upd]
  | succ d ih =>
    intro l hok hsz
    have hsub := lsize_subs d l
    obtain ⟨q, hq⟩ : ∃ q : Nat → Bool, q = fun i => L.getD i false := ⟨_, rfl⟩
    have hqe : ∀ i, L.getD i false = q i := fun i => by rw [hq]
    rw [← hq] at ih ⊢
    have hcl : ∀ {i : Nat} {s : St1}, l[i]? = some s → cutL q p.vars.length (d + 1) (l.take (i + 1)) = cutL q p.vars.length (d + 1) (l.take i) ++ (cutS q p.vars.length (cutL q p.vars.length d) s).toList := fun {i s} h => by
      simp only [cutL]; rw [List.take_add_one, h, List.filterMap_append]
      cases h2 : cutS q p.vars.length (cutL q p.vars.length d) s <;> simp [List.filterMap_cons, h2]
    have hcll : ∀ i, (cutL q p.vars.length (d + 1) (l.take i)).length ≤ i := fun i => by
      simp only [cutL]; exact Nat.le_trans (List.length_filterMap_le _ _) (by simp; omega)
    have hcn := cutL_nil q p.vars.length d
    obtain ⟨vs, ar, bd⟩ := p
    have hn : vs.length + ar.length ≤ 14 := hn
    have hv : 1 ≤ vs.length := hv
    have hL : L.length = vs.length + ar.length := hL
    simp only at hcl hcll hcn ih
    generalize hR : (fun (r : D) (h : List (Option (List C))) => r = .c (.isl 11 (St1.cellsL (cutL q vs.length (d + 1) l))) ∧ h = []) = R
    have hbD : boolsD L = .isl 1 (L.map fun b => [BC b]) := rfl
    rw [hbD] at ih ⊢
    refine dcZ Tryz.func57 ?_
    simp (maxSteps := 9999999) only [go_sem]
    iterate 2 ((try (refine drvZ Tryz.func57 ?_; simp (maxSteps := 9999999) only [go_sem])); (try ((with_reducible refine And.intro ?_ ?_) <;> (repeat' with_reducible apply And.intro) <;> try exact sd)))
    refine Go.loopQ (fun i : Nat => [(1, .c (.isl 11 (St1.cellsL l))), (2, .c (.isl 1 (L.map fun b => [BC b]))), (3, .c (.ptr 0 0)), (7, .c (.msl 67 11 0 (cutL q vs.length (d + 1) (l.take i)).length)), (8, DI .i64 i)])
      (fun i => [(0, some (Pg.cells ⟨vs, ar, bd⟩)), (67, some (stC (cutL q vs.length (d + 1) (l.take i))))])
      4096 (fun i => i ≤ l.length) (fun i => l.length - i) ?_ 0 (fun j => if j = 67 then some 128 else some j) [] _ (Nat.zero_le _) ?_
    · intro i hi again
      have hli := hcll i
      rcases Nat.lt_or_ge i l.length with hlt | hge
      · obtain ⟨⟨k, t, ⟨ik, iv, iks⟩, ⟨vk, vv, vks⟩, c, b, e⟩, hx⟩ : ∃ x, l[i]? = some x := ⟨l[i], by simp [hlt]⟩
        have hsok := hok _ (List.mem_of_getElem? hx)
        have hex := exprs_of hsok
        have hbe := stmtOK_succ hsok
        have hhk := head_kind hbe.1
        have hlf := head_leaf hbe.1
        simp only at hhk
        have a1 := tsum_succ (subs d) l i _ hx
        have a2 := tsum_le (subs d) l (i + 1)
        simp only [subs, St1.body, St1.els] at a1 a2
        have ihb := ih b hbe.2.1 (by omega)
        have ihe := ih e hbe.2.2 (by omega)
        have hci := hcl hx
        have hel := stC_len (cutL q vs.length (d + 1) (l.take i))
        generalize hCi : cutL q vs.length (d + 1) (l.take i) = Ci at *
        have key : k = 5 ∨ k = 1 ∨ k = 2 ∨ (k ≠ 5 ∧ k ≠ 1 ∧ k ≠ 2) := by omega
        rcases key with hk | hk | hk | ⟨hk5, hk1, hk2⟩
        · subst hk
          obtain ⟨rfl, rfl⟩ := hlf (by simp)
          rw [hcn] at ihb ihe
          have hat := @bools_at L t.toNat (by omega)
          have hcut : cutS q vs.length (cutL q vs.length d) (.mk 5 t (.mk ik iv iks) (.mk vk vv vks) c [] []) = some (.mk 5 t (.mk ik iv iks) (.mk vk vv vks) c [] []) := by simp [cutS]
          rw [hcut, Option.toList_some] at hci
          refine drvL Tryz.func57 ?_
          simp (maxSteps := 9999999) only [go_sem, hx, hlt]
          iterate 2 ((try (refine drvZ Tryz.func57 ?_; simp (maxSteps := 9999999) only [go_sem, hx, hlt])); (try ((with_reducible refine And.intro ?_ ?_) <;> (repeat' with_reducible apply And.intro) <;> try exact sd)))
          refine XK.plain (l2CopyExpr _ (SmE_of hex.1)) ok101 ?_ (hbT ())
          iterate 2 ((try (refine drvZ Tryz.func57 ?_; simp (maxSteps := 9999999) only [go_sem, hx, hlt])); (try ((with_reducible refine And.intro ?_ ?_) <;> (repeat' with_reducible apply And.intro) <;> try exact sd)))
          refine XK.plain (l2CopyExpr _ (SmE_of hex.2)) ok101 ?_ (hbT ())
          iterate 2 ((try (refine drvZ Tryz.func57 ?_; simp (maxSteps := 9999999) only [go_sem, hx, hlt])); (try ((with_reducible refine And.intro ?_ ?_) <;> (repeat' with_reducible apply And.intro) <;> try exact sd)))
          refine XK.plain ihb ok57 ?_ (hbT ()) (fun _ => by kernel_rfl)
          iterate 2 ((try (refine drvZ Tryz.func57 ?_; simp (maxSteps := 9999999) only [go_sem, hx, hlt])); (try ((with_reducible refine And.intro ?_ ?_) <;> (repeat' with_reducible apply And.intro) <;> try exact sd)))
          refine XK.plain ihe ok57 ?_ (hbT ()) (fun _ => by kernel_rfl)
          iterate 9 ((try (refine drvZ Tryz.func57 ?_; simp (maxSteps := 9999999) only [go_sem, St1.cellsL, Int.natCast_zero, Int.reduceLT, Int.lt_irrefl, hx, hlt, hel, hat])); (try ((with_reducible refine And.intro ?_ ?_) <;> (repeat' with_reducible apply And.intro) <;> try exact sd)))
          refine again (i + 1) (fun j => if j = 67 then some 8896 else some j) [] _ hlt (by omega) ?_
          simp (maxSteps := 9999999) only [go_sem, TmOK, DM, DMs, CM, CMs, forall_eq, exists_eq_left, Mq, HpOK, LowOK, List.cons_append, List.nil_append, hci, stC_snoc, List.length_append]
          simp
          exact CMs.kf (kf_app (stC_kf _) (by simp [kf]))
        · subst hk
          obtain ⟨rfl, rfl⟩ := hlf (by simp)
          rw [hcn] at ihb ihe
          have ht : 0 ≤ t ∧ t < (vs.length : Int) := by omega
          have hpos : ((vs.length : Int) + t).toNat = vs.length + t.toNat := by omega
          have hat := @bools_at L t.toNat (by omega)
          have hat2 := @bools_at L t.toNat (by omega)
          rw [hqe] at hat
          cases hqq : q t.toNat with
          | true =>
            rw [hqq] at hat
            have hcut : cutS q vs.length (cutL q vs.length d) (.mk 1 t (.mk ik iv iks) (.mk vk vv vks) c [] []) = some (.mk 1 t (.mk ik iv iks) (.mk vk vv vks) c [] []) := by simp [cutS, hqq]
            rw [hcut, Option.toList_some] at hci
            refine drvL Tryz.func57 ?_
            simp (maxSteps := 9999999) only [go_sem, hx, hlt]
            iterate 2 ((try (refine drvZ Tryz.func57 ?_; simp (maxSteps := 9999999) only [go_sem, hx, hlt])); (try ((with_reducible refine And.intro ?_ ?_) <;> (repeat' with_reducible apply And.intro) <;> try exact sd)))
            refine XK.plain (l2CopyExpr _ (SmE_of hex.1)) ok101 ?_ (hbT ())
            iterate 2 ((try (refine drvZ Tryz.func57 ?_; simp (maxSteps := 9999999) only [go_sem, hx, hlt])); (try ((with_reducible refine And.intro ?_ ?_) <;> (repeat' with_reducible apply And.intro) <;> try exact sd)))
            refine XK.plain (l2CopyExpr _ (SmE_of hex.2)) ok101 ?_ (hbT ())
            iterate 2 ((try (refine drvZ Tryz.func57 ?_; simp (maxSteps := 9999999) only [go_sem, hx, hlt])); (try ((with_reducible refine And.intro ?_ ?_) <;> (repeat' with_reducible apply And.intro) <;> try exact sd)))
            refine XK.plain ihb ok57 ?_ (hbT ()) (fun _ => by kernel_rfl)
            iterate 2 ((try (refine drvZ Tryz.func57 ?_; simp (maxSteps := 9999999) only [go_sem, hx, hlt])); (try ((with_reducible refine And.intro ?_ ?_) <;> (repeat' with_reducible apply And.intro) <;> try exact sd)))
            refine XK.plain ihe ok57 ?_ (hbT ()) (fun _ => by kernel_rfl)
            iterate 9 ((try (refine drvZ Tryz.func57 ?_; simp (maxSteps := 9999999) only [go_sem, St1.cellsL, Int.natCast_zero, Int.reduceLT, Int.lt_irrefl, hx, hlt, hel, hat, hpos, hat2])); (try ((with_reducible refine And.intro ?_ ?_) <;> (repeat' with_reducible apply And.intro) <;> try exact sd)))
            refine again (i + 1) (fun j => if j = 67 then some 8896 else some j) [] _ hlt (by omega) ?_
            simp (maxSteps := 9999999) only [go_sem, TmOK, DM, DMs, CM, CMs, forall_eq, exists_eq_left, Mq, HpOK, LowOK, List.cons_append, List.nil_append, hci, stC_snoc, List.length_append]
            simp
            exact CMs.kf (kf_app (stC_kf _) (by simp [kf]))
          | false =>
            rw [hqq] at hat
            have hcut : cutS q vs.length (cutL q vs.length d) (.mk 1 t (.mk ik iv iks) (.mk vk vv vks) c [] []) = none := by simp [cutS, hqq]
            rw [hcut, Option.toList_none, List.append_nil] at hci
            refine drvL Tryz.func57 ?_
            simp (maxSteps := 9999999) only [go_sem, hx, hlt]
            iterate 2 ((try (refine drvZ Tryz.func57 ?_; simp (maxSteps := 9999999) only [go_sem, hx, hlt])); (try ((with_reducible refine And.intro ?_ ?_) <;> (repeat' with_reducible apply And.intro) <;> try exact sd)))
            refine XK.plain (l2CopyExpr _ (SmE_of hex.1)) ok101 ?_ (hbT ())
            iterate 2 ((try (refine drvZ Tryz.func57 ?_; simp (maxSteps := 9999999) only [go_sem, hx, hlt])); (try ((with_reducible refine And.intro ?_ ?_) <;> (repeat' with_reducible apply And.intro) <;> try exact sd)))
            refine XK.plain (l2CopyExpr _ (SmE_of hex.2)) ok101 ?_ (hbT ())
            iterate 2 ((try (refine drvZ Tryz.func57 ?_; simp (maxSteps := 9999999) only [go_sem, hx, hlt])); (try ((with_reducible refine And.intro ?_ ?_) <;> (repeat' with_reducible apply And.intro) <;> try exact sd)))
            refine XK.plain ihb ok57 ?_ (hbT ()) (fun _ => by kernel_rfl)
            iterate 2 ((try (refine drvZ Tryz.func57 ?_; simp (maxSteps := 9999999) only [go_sem, hx, hlt])); (try ((with_reducible refine And.intro ?_ ?_) <;> (repeat' with_reducible apply And.intro) <;> try exact sd)))
            refine XK.plain ihe ok57 ?_ (hbT ()) (fun _ => by kernel_rfl)
            iterate 9 ((try (refine drvZ Tryz.func57 ?_; simp (maxSteps := 9999999) only [go_sem, St1.cellsL, Int.natCast_zero, Int.reduceLT, Int.lt_irrefl, hx, hlt, hel, hat, hpos, hat2])); (try ((with_reducible refine And.intro ?_ ?_) <;> (repeat' with_reducible apply And.intro) <;> try exact sd)))
            refine again (i + 1) some [] _ hlt (by omega) ?_
            simp (maxSteps := 9999999) only [go_sem, TmOK, DM, DMs, CM, CMs, forall_eq, exists_eq_left, Mq, HpOK, LowOK, List.cons_append, List.nil_append, hci]
            simp
            exact CMs.kf (stC_kf _)
        · subst hk
          obtain ⟨rfl, rfl⟩ := hlf (by simp)
          rw [hcn] at ihb ihe
          have ht : 0 ≤ t ∧ t < (ar.length : Int) := by omega
          have hpos : ((vs.length : Int) + t).toNat = vs.length + t.toNat := by omega
          have hat := @bools_at L (vs.length + t.toNat) (by omega)
          have hat2 := @bools_at L t.toNat (by omega)
          rw [hqe] at hat
          cases hqq : q (vs.length + t.toNat) with
          | true =>
            rw [hqq] at hat
            have hcut : cutS q vs.length (cutL q vs.length d) (.mk 2 t (.mk ik iv iks) (.mk vk vv vks) c [] []) = some (.mk 2 t (.mk ik iv iks) (.mk vk vv vks) c [] []) := by simp [cutS, hqq]
            rw [hcut, Option.toList_some] at hci
            refine drvL Tryz.func57 ?_
            simp (maxSteps := 9999999) only [go_sem, hx, hlt]
            iterate 2 ((try (refine drvZ Tryz.func57 ?_; simp (maxSteps := 9999999) only [go_sem, hx, hlt])); (try ((with_reducible refine And.intro ?_ ?_) <;> (repeat' with_reducible apply And.intro) <;> try exact sd)))
            refine XK.plain (l2CopyExpr _ (SmE_of hex.1)) ok101 ?_ (hbT ())
            iterate 2 ((try (refine drvZ Tryz.func57 ?_; simp (maxSteps := 9999999) only [go_sem, hx, hlt])); (try ((with_reducible refine And.intro ?_ ?_) <;> (repeat' with_reducible apply And.intro) <;> try exact sd)))
            refine XK.plain (l2CopyExpr _ (SmE_of hex.2)) ok101 ?_ (hbT ())
            iterate 2 ((try (refine drvZ Tryz.func57 ?_; simp (maxSteps := 9999999) only [go_sem, hx, hlt])); (try ((with_reducible refine And.intro ?_ ?_) <;> (repeat' with_reducible apply And.intro) <;> try exact sd)))
            refine XK.plain ihb ok57 ?_ (hbT ()) (fun _ => by kernel_rfl)
            iterate 2 ((try (refine drvZ Tryz.func57 ?_; simp (maxSteps := 9999999) only [go_sem, hx, hlt])); (try ((with_reducible refine And.intro ?_ ?_) <;> (repeat' with_reducible apply And.intro) <;> try exact sd)))
            refine XK.plain ihe ok57 ?_ (hbT ()) (fun _ => by kernel_rfl)
            iterate 9 ((try (refine drvZ Tryz.func57 ?_; simp (maxSteps := 9999999) only [go_sem, St1.cellsL, Int.natCast_zero, Int.reduceLT, Int.lt_irrefl, hx, hlt, hel, hat, hpos, hat2])); (try ((with_reducible refine And.intro ?_ ?_) <;> (repeat' with_reducible apply And.intro) <;> try exact sd)))
            refine again (i + 1) (fun j => if j = 67 then some 9536 else some j) [] _ hlt (by omega) ?_
            simp (maxSteps := 9999999) only [go_sem, TmOK, DM, DMs, CM, CMs, forall_eq, exists_eq_left, Mq, HpOK, LowOK, List.cons_append, List.nil_append, hci, stC_snoc, List.length_append]
            simp
            exact CMs.kf (kf_app (stC_kf _) (by simp [kf]))
          | false =>
            rw [hqq] at hat
            have hcut : cutS q vs.length (cutL q vs.length d) (.mk 2 t (.mk ik iv iks) (.mk vk vv vks) c [] []) = none := by simp [cutS, hqq]
            rw [hcut, Option.toList_none, List.append_nil] at hci
            refine drvL Tryz.func57 ?_
            simp (maxSteps := 9999999) only [go_sem, hx, hlt]
            iterate 2 ((try (refine drvZ Tryz.func57 ?_; simp (maxSteps := 9999999) only [go_sem, hx, hlt])); (try ((with_reducible refine And.intro ?_ ?_) <;> (repeat' with_reducible apply And.intro) <;> try exact sd)))
            refine XK.plain (l2CopyExpr _ (SmE_of hex.1)) ok101 ?_ (hbT ())
            iterate 2 ((try (refine drvZ Tryz.func57 ?_; simp (maxSteps := 9999999) only [go_sem, hx, hlt])); (try ((with_reducible refine And.intro ?_ ?_) <;> (repeat' with_reducible apply And.intro) <;> try exact sd)))
            refine XK.plain (l2CopyExpr _ (SmE_of hex.2)) ok101 ?_ (hbT ())
            iterate 2 ((try (refine drvZ Tryz.func57 ?_; simp (maxSteps := 9999999) only [go_sem, hx, hlt])); (try ((with_reducible refine And.intro ?_ ?_) <;> (repeat' with_reducible apply And.intro) <;> try exact sd)))
            refine XK.plain ihb ok57 ?_ (hbT ()) (fun _ => by kernel_rfl)
            iterate 2 ((try (refine drvZ Tryz.func57 ?_; simp (maxSteps := 9999999) only [go_sem, hx, hlt])); (try ((with_reducible refine And.intro ?_ ?_) <;> (repeat' with_reducible apply And.intro) <;> try exact sd)))
            refine XK.plain ihe ok57 ?_ (hbT ()) (fun _ => by kernel_rfl)
            iterate 9 ((try (refine drvZ Tryz.func57 ?_; simp (maxSteps := 9999999) only [go_sem, St1.cellsL, Int.natCast_zero, Int.reduceLT, Int.lt_irrefl, hx, hlt, hel, hat, hpos, hat2])); (try ((with_reducible refine And.intro ?_ ?_) <;> (repeat' with_reducible apply And.intro) <;> try exact sd)))
            refine again (i + 1) some [] _ hlt (by omega) ?_
            simp (maxSteps := 9999999) only [go_sem, TmOK, DM, DMs, CM, CMs, forall_eq, exists_eq_left, Mq, HpOK, LowOK, List.cons_append, List.nil_append, hci]
            simp
            exact CMs.kf (stC_kf _)
        · have e5 : (k == 5) = false := by simp [hk5]
          have e1 : (k == 1) = false := by simp [hk1]
          have e2 : (k == 2) = false := by simp [hk2]
          have hcS : cutS q vs.length (cutL q vs.length d) (.mk k t (.mk ik iv iks) (.mk vk vv vks) c b e) = if 0 < (cutL q vs.length d b).length + (cutL q vs.length d e).length then some (.mk k t (.mk ik iv iks) (.mk vk vv vks) c (cutL q vs.length d b) (cutL q vs.length d e)) else none := by simp [cutS, hk5, hk1, hk2]
          generalize cutL q vs.length d b = cb at *
          generalize cutL q vs.length d e = ce at *
          have ht0 := head_blk hbe.1 hk5 hk1 hk2
          have hat := @bools_at L t.toNat (by omega)
          by_cases hb0 : 0 < cb.length
          · have hp1 : ((0 : Int) < (cb.length : Int)) = True := eq_true (by omega)
            rw [if_pos (by omega)] at hcS
            rw [hcS, Option.toList_some] at hci
            refine drvL Tryz.func57 ?_
            simp (maxSteps := 9999999) only [go_sem, hx, hlt]
            iterate 2 ((try (refine drvZ Tryz.func57 ?_; simp (maxSteps := 9999999) only [go_sem, hx, hlt])); (try ((with_reducible refine And.intro ?_ ?_) <;> (repeat' with_reducible apply And.intro) <;> try exact sd)))
            refine XK.plain (l2CopyExpr _ (SmE_of hex.1)) ok101 ?_ (hbT ())
            iterate 2 ((try (refine drvZ Tryz.func57 ?_; simp (maxSteps := 9999999) only [go_sem, hx, hlt])); (try ((with_reducible refine And.intro ?_ ?_) <;> (repeat' with_reducible apply And.intro) <;> try exact sd)))
            refine XK.plain (l2CopyExpr _ (SmE_of hex.2)) ok101 ?_ (hbT ())
            iterate 2 ((try (refine drvZ Tryz.func57 ?_; simp (maxSteps := 9999999) only [go_sem, hx, hlt])); (try ((with_reducible refine And.intro ?_ ?_) <;> (repeat' with_reducible apply And.intro) <;> try exact sd)))
            refine XK.plain ihb ok57 ?_ (hbT ()) (fun _ => by kernel_rfl)
            iterate 2 ((try (refine drvZ Tryz.func57 ?_; simp (maxSteps := 9999999) only [go_sem, hx, hlt])); (try ((with_reducible refine And.intro ?_ ?_) <;> (repeat' with_reducible apply And.intro) <;> try exact sd)))
            refine XK.plain ihe ok57 ?_ (hbT ()) (fun _ => by kernel_rfl)
            iterate 9 ((try (refine drvZ Tryz.func57 ?_; simp (maxSteps := 9999999) only [go_sem, e5, e1, e2, hk5, hk1, hk2, hat, hx, hlt, hel, hp1])); (try ((with_reducible refine And.intro ?_ ?_) <;> (repeat' with_reducible apply And.intro) <;> try exact sd)))
            refine again (i + 1) (fun j => if j = 67 then some 8896 else some j) [] _ hlt (by omega) ?_
            simp (maxSteps := 9999999) only [go_sem, TmOK, DM, DMs, CM, CMs, forall_eq, exists_eq_left, Mq, HpOK, LowOK, List.cons_append, List.nil_append, hci, stC_snoc, List.length_append]
            simp
            exact CMs.kf (kf_app (stC_kf _) (by simp [kf]))
          · have hp1 : ((0 : Int) < (cb.length : Int)) = False := eq_false (by omega)
            by_cases he0 : 0 < ce.length
            · have hp2 : ((0 : Int) < (ce.length : Int)) = True := eq_true (by omega)
              rw [if_pos (by omega)] at hcS
              rw [hcS, Option.toList_some] at hci
              refine drvL Tryz.func57 ?_
              simp (maxSteps := 9999999) only [go_sem, hx, hlt]
              iterate 2 ((try (refine drvZ Tryz.func57 ?_; simp (maxSteps := 9999999) only [go_sem, hx, hlt])); (try ((with_reducible refine And.intro ?_ ?_) <;> (repeat' with_reducible apply And.intro) <;> try exact sd)))
              refine XK.plain (l2CopyExpr _ (SmE_of hex.1)) ok101 ?_ (hbT ())
              iterate 2 ((try (refine drvZ Tryz.func57 ?_; simp (maxSteps := 9999999) only [go_sem, hx, hlt])); (try ((with_reducible refine And.intro ?_ ?_) <;> (repeat' with_reducible apply And.intro) <;> try exact sd)))
              refine XK.plain (l2CopyExpr _ (SmE_of hex.2)) ok101 ?_ (hbT ())
              iterate 2 ((try (refine drvZ Tryz.func57 ?_; simp (maxSteps := 9999999) only [go_sem, hx, hlt])); (try ((with_reducible refine And.intro ?_ ?_) <;> (repeat' with_reducible apply And.intro) <;> try exact sd)))
              refine XK.plain ihb ok57 ?_ (hbT ()) (fun _ => by kernel_rfl)
              iterate 2 ((try (refine drvZ Tryz.func57 ?_; simp (maxSteps := 9999999) only [go_sem, hx, hlt])); (try ((with_reducible refine And.intro ?_ ?_) <;> (repeat' with_reducible apply And.intro) <;> try exact sd)))
              refine XK.plain ihe ok57 ?_ (hbT ()) (fun _ => by kernel_rfl)
              iterate 9 ((try (refine drvZ Tryz.func57 ?_; simp (maxSteps := 9999999) only [go_sem, e5, e1, e2, hk5, hk1, hk2, hat, hx, hlt, hel, hp1, hp2])); (try ((with_reducible refine And.intro ?_ ?_) <;> (repeat' with_reducible apply And.intro) <;> try exact sd)))
              refine again (i + 1) (fun j => if j = 67 then some 8896 else some j) [] _ hlt (by omega) ?_
              simp (maxSteps := 9999999) only [go_sem, TmOK, DM, DMs, CM, CMs, forall_eq, exists_eq_left, Mq, HpOK, LowOK, List.cons_append, List.nil_append, hci, stC_snoc, List.length_append]
              simp
              exact CMs.kf (kf_app (stC_kf _) (by simp [kf]))
            · have hp2 : ((0 : Int) < (ce.length : Int)) = False := eq_false (by omega)
              rw [if_neg (by omega)] at hcS
              rw [hcS, Option.toList_none, List.append_nil] at hci
              refine drvL Tryz.func57 ?_
              simp (maxSteps := 9999999) only [go_sem, hx, hlt]
              iterate 2 ((try (refine drvZ Tryz.func57 ?_; simp (maxSteps := 9999999) only [go_sem, hx, hlt])); (try ((with_reducible refine And.intro ?_ ?_) <;> (repeat' with_reducible apply And.intro) <;> try exact sd)))
              refine XK.plain (l2CopyExpr _ (SmE_of hex.1)) ok101 ?_ (hbT ())
              iterate 2 ((try (refine drvZ Tryz.func57 ?_; simp (maxSteps := 9999999) only [go_sem, hx, hlt])); (try ((with_reducible refine And.intro ?_ ?_) <;> (repeat' with_reducible apply And.intro) <;> try exact sd)))
              refine XK.plain (l2CopyExpr _ (SmE_of hex.2)) ok101 ?_ (hbT ())
              iterate 2 ((try (refine drvZ Tryz.func57 ?_; simp (maxSteps := 9999999) only [go_sem, hx, hlt])); (try ((with_reducible refine And.intro ?_ ?_) <;> (repeat' with_reducible apply And.intro) <;> try exact sd)))
              refine XK.plain ihb ok57 ?_ (hbT ()) (fun _ => by kernel_rfl)
              iterate 2 ((try (refine drvZ Tryz.func57 ?_; simp (maxSteps := 9999999) only [go_sem, hx, hlt])); (try ((with_reducible refine And.intro ?_ ?_) <;> (repeat' with_reducible apply And.intro) <;> try exact sd)))
              refine XK.plain ihe ok57 ?_ (hbT ()) (fun _ => by kernel_rfl)
              iterate 9 ((try (refine drvZ Tryz.func57 ?_; simp (maxSteps := 9999999) only [go_sem, e5, e1, e2, hk5, hk1, hk2, hat, hx, hlt, hel, hp1, hp2])); (try ((with_reducible refine And.intro ?_ ?_) <;> (repeat' with_reducible apply And.intro) <;> try exact sd)))
              refine again (i + 1) some [] _ hlt (by omega) ?_
              simp (maxSteps := 9999999) only [go_sem, TmOK, DM, DMs, CM, CMs, forall_eq, exists_eq_left, Mq, HpOK, LowOK, List.cons_append, List.nil_append, hci]
              simp
              exact CMs.kf (stC_kf _)
      · have hn2 : ¬ i < l.length := by omega
        obtain rfl : i = l.length := by omega
        refine drvL Tryz.func57 ?_
        simp (maxSteps := 9999999) only [go_sem, hn2, List.take_length]
        iterate 2 ((try (refine drvZ Tryz.func57 ?_; simp (maxSteps := 9999999) only [go_sem, hn2, List.take_length])); (try ((with_reducible refine And.intro ?_ ?_) <;> (repeat' with_reducible apply And.intro) <;> try exact sd)))
        generalize hCi : cutL q vs.length (d + 1) l = Ci at *
        refine RetOb.ofQ (fun j => none) [67] (.c (.isl 11 (St1.cellsL Ci))) [] ?_ (by rw [← hR]; exact ⟨rfl, rfl⟩) (by simp)
        have g1 : (St1.cellsL Ci).flatten = stC Ci := by rw [St1.cellsL_eq]; rfl
        have g2 : ∀ x ∈ St1.cellsL Ci, x.length = 11 := fun x hx => by rw [St1.cellsL_eq] at hx; obtain ⟨e, _, rfl⟩ := List.mem_map.1 hx; exact St1.cells_len e
        have g3 : ∀ x ∈ St1.cellsL Ci, ∀ c ∈ x, kf c = true := fun x hx => by rw [St1.cellsL_eq] at hx; obtain ⟨e, _, rfl⟩ := List.mem_map.1 hx; exact st_kf e
        simp only [enumL, hOf, DM, DMs, CM, CMs, HpOK, LowOK, upd, St1.cellsL_length, g1]
        first | (simp; exact ⟨g2, g3⟩) | (simp [g2]; exact g3) | exact ⟨g2, g3⟩
    · simp (maxSteps := 9999999) only [go_sem, TmOK, DM, DMs, CM, CMs, forall_eq, exists_eq_left, Mq, HpOK, LowOK]
      simp [cutL, stC, CMs]
end Go.Proofs.YtmagbjbanpgmhaaGreat.CtD

namespace Go.Proofs.YtmagbjbanpgmhaaGreat.CtD
open Go Go.CT CtF CtR

/-! Plain: the reference's slice is the least closed set too. -/
def gL (L : List Bool) : Nat → Bool := fun i => L.getD i false
theorem gL_ext {L L' : List Bool} (h : L'.length = L.length) (h1 : leB (gL L) (gL L')) (h2 : leB (gL L') (gL L)) : L' = L := by
  apply List.ext_getElem h
  intro i a b
  have e1 := h1 i
  have e2 := h2 i
  simp only [gL, List.getD_eq_getElem?_getD, List.getElem?_eq_getElem a, List.getElem?_eq_getElem b, Option.getD_some] at e1 e2
  cases hx : L'[i] <;> cases hy : L[i] <;> simp_all
theorem gL_set {L : List Bool} {j : Nat} (h : j < L.length) (i : Nat) : gL (L.set j true) i = true ↔ gL L i = true ∨ (2 ^ j).testBit i = true := by
  simp only [gL, List.getD_eq_getElem?_getD, Nat.testBit_two_pow, decide_eq_true_eq]
  by_cases hij : j = i
  · subst hij; simp [List.getElem?_set_self h]
  · rw [List.getElem?_set_ne hij]; simp [hij]
theorem usesL_mem {p : Pg} (i : Nat) : ∀ (d : Nat) (e : Ex) (L : List Bool), CtR.shape p d e = true → L.length = p.vars.length + p.arrays.length →
    (gL (usesL p.vars.length d e L) i = true ↔ gL L i = true ∨ (occN p.vars.length d e).testBit i = true)
  | 0, e, L, h, _ => by simp [CtR.shape] at h
  | d + 1, .mk k v ks, L, h, hL => by
    obtain ⟨g1, g2, g3⟩ := shape_succ h
    obtain ⟨hl3, hla, hv0, hv1⟩ := fits_len g1
    have hlim : k = 2 → v < p.vars.length := fun hk => by subst hk; simpa [limit] using hv1
    have hlim3 : k = 3 → v < p.arrays.length := fun hk => by subst hk; simpa [limit] using hv1
    have gen : ∀ (ks : List Ex), (∀ x ∈ ks, CtR.shape p d x = true) → ∀ (M : List Bool) (a : Nat), M.length = L.length → (gL M i = true ↔ gL L i = true ∨ a.testBit i = true) →
        (gL (ks.foldl (fun L x => usesL p.vars.length d x L) M) i = true ↔ gL L i = true ∨ ((ks.map (occN p.vars.length d)).foldl (fun a b => a ||| b) a).testBit i = true) := fun ks => by
      induction ks with
      | nil => intro _ M a _ h; exact h
      | cons x r ih =>
        intro hs M a hM h
        rw [List.foldl_cons, List.map_cons, List.foldl_cons]
        refine ih (fun y hy => hs y (by simp [hy])) _ _ (by rw [usesL_len, hM]) ?_
        rw [usesL_mem i d x M (hs x (by simp)) (by omega), h, Nat.testBit_or, Bool.or_eq_true, or_assoc]
    simp only [usesL, occN]
    refine gen ks g2 _ _ (by split <;> (try split) <;> simp) ?_
    unfold occB
    by_cases h2 : k = 2
    · have := hlim h2
      simp only [h2, if_true]
      exact gL_set (by omega) i
    · by_cases h3 : k = 3
      · have := hlim3 h3
        simp only [h2, h3, if_true, if_false]
        first | exact gL_set (by omega) i | (simp only [Int.reduceEq, if_false]; exact gL_set (by omega) i)
      · simp [h2, h3]
theorem usesE_mem {p : Pg} (i : Nat) {e : Ex} (h : CtR.shape p 5 e = true ∨ e = .mk 0 0 []) (L : List Bool) (hL : L.length = p.vars.length + p.arrays.length) :
    (gL (usesL p.vars.length 5 e L) i = true ↔ gL L i = true ∨ (occN p.vars.length 5 e).testBit i = true) := by
  rcases h with h | rfl
  · exact usesL_mem i 5 e L h hL
  · simp [usesL, occN, occB]

structure NS (L L' : List Bool) (K : Bool) (A : (Nat → Bool) → Nat) (K' : (Nat → Bool) → Bool) : Prop where
  len : L'.length = L.length
  s1 : leB (gL L) (gL L')
  s2 : ∀ q', leB (gL L) q' → subB (A q') q' → leB (gL L') q' ∧ (K = true → K' q' = true)
  s3 : leB (gL L') (gL L) → subB (A (gL L)) (gL L) ∧ (K' (gL L) = true → K = true)
theorem NS.nil (L : List Bool) : NS L L false (fun _ => 0) (fun _ => false) :=
  ⟨rfl, fun i h => h, fun q' h _ => ⟨h, fun h => by cases h⟩, fun _ => ⟨subB_zero _, fun h => by cases h⟩⟩
theorem NS.seq {L L1 L2 : List Bool} {K1 K2 : Bool} {A1 A2 : (Nat → Bool) → Nat} {B1 B2 : (Nat → Bool) → Bool} (h1 : NS L L1 K1 A1 B1) (h2 : NS L1 L2 K2 A2 B2) :
    NS L L2 (K1 || K2) (fun q => A1 q ||| A2 q) (fun q => B1 q || B2 q) := by
  refine ⟨by rw [h2.len, h1.len], fun i h => h2.s1 i (h1.s1 i h), fun q' hl hs => ?_, fun hl => ?_⟩
  · obtain ⟨sa, sb⟩ := subB_or.1 hs
    have a := h1.s2 q' hl sa
    have b := h2.s2 q' a.1 sb
    refine ⟨b.1, fun h => ?_⟩
    rw [Bool.or_eq_true] at h ⊢
    exact h.imp a.2 b.2
  · have e1 : L1 = L := gL_ext h1.len h1.s1 (fun i h => hl i (h2.s1 i h))
    subst e1
    have a := h1.s3 (fun i h => h)
    have b := h2.s3 hl
    refine ⟨subB_or.2 ⟨a.1, b.1⟩, fun h => ?_⟩
    rw [Bool.or_eq_true] at h ⊢
    exact h.imp a.2 b.2
theorem NS.keep {L L1 U : List Bool} {K : Bool} {A : (Nat → Bool) → Nat} {B : (Nat → Bool) → Bool} (o : Nat) (h : NS L L1 K A B) (hl : U.length = L1.length) (hU : ∀ i, gL U i = true ↔ gL L1 i = true ∨ o.testBit i = true) :
    NS L (if K then U else L1) K (fun q => if B q then A q ||| o else A q) B := by
  cases hK : K with
  | false =>
    rw [hK] at h
    refine ⟨h.len, h.s1, fun q' hle hs => ?_, fun hle => ?_⟩
    · have : subB (A q') q' := by
        split at hs
        · exact (subB_or.1 hs).1
        · exact hs
      exact h.s2 q' hle this
    · have a := h.s3 hle
      have hb : B (gL L) = false := by
        cases hB : B (gL L) with
        | false => rfl
        | true => exact absurd (a.2 hB) (by simp)
      refine ⟨?_, a.2⟩
      simp only [hb, Bool.false_eq_true, if_false]
      exact a.1
  | true =>
    rw [hK] at h
    refine ⟨by rw [if_pos rfl, hl, h.len], fun i hi => ?_, fun q' hle hs => ?_, fun hle => ?_⟩
    · rw [if_pos rfl]; exact (hU i).2 (.inl (h.s1 i hi))
    · have a : subB (A q') q' := by
        split at hs
        · exact (subB_or.1 hs).1
        · exact hs
      have b := h.s2 q' hle a
      refine ⟨fun i hi => ?_, b.2⟩
      rw [if_pos rfl] at hi
      have hb := b.2 rfl
      simp only [hb, if_true] at hs
      rcases (hU i).1 hi with h1 | h1
      · exact b.1 i h1
      · exact (subB_or.1 hs).2 i h1
    · rw [if_pos rfl] at hle
      have a := h.s3 (fun i hi => hle i ((hU i).2 (.inl hi)))
      refine ⟨?_, a.2⟩
      have ho : subB o (gL L) := fun i hi => hle i ((hU i).2 (.inr hi))
      split
      · exact subB_or.2 ⟨a.1, ho⟩
      · exact a.1
theorem addS_or (q : Nat → Bool) (nv : Nat) (f : List St1 → List St1) (g : List St1 → Nat) (a : Nat) (s : St1) : addS q nv f g a s = a ||| addS q nv f g 0 s := by
  obtain ⟨k, t, ix, v, c, b, e⟩ := s
  simp only [addS]
  split <;> split <;> simp [Nat.or_assoc]
theorem NS.fold (nv : Nat) (f : List St1 → List Bool → Bool × List Bool) (g : (Nat → Bool) → List St1 → List St1) (w : (Nat → Bool) → List St1 → Nat) (L0 : List Bool) : ∀ (l : List St1) (x : Bool × List Bool) (A : (Nat → Bool) → Nat) (B : (Nat → Bool) → Bool),
    (∀ s ∈ l, ∀ L : List Bool, L.length = L0.length → NS L (needS nv f L s).2 (needS nv f L s).1 (fun q => addS q nv (g q) (w q) 0 s) (fun q => (cutS q nv (g q) s).isSome)) → NS L0 x.2 x.1 A B →
    NS L0 (l.foldl (fun x s => (x.1 || (needS nv f x.2 s).1, (needS nv f x.2 s).2)) x).2 (l.foldl (fun x s => (x.1 || (needS nv f x.2 s).1, (needS nv f x.2 s).2)) x).1 (fun q => l.foldl (addS q nv (g q) (w q)) (A q)) (fun q => B q || l.any fun s => (cutS q nv (g q) s).isSome)
  | [], x, A, B, _, h => by simpa using h
  | s :: r, x, A, B, hs, h => by
    have h1 := h.seq (hs s (by simp) x.2 h.len)
    have h2 := NS.fold nv f g w L0 r (x.1 || (needS nv f x.2 s).1, (needS nv f x.2 s).2) _ _ (fun y hy => hs y (by simp [hy])) h1
    simp only [List.foldl_cons, List.any_cons]
    have e1 : (fun q => List.foldl (addS q nv (g q) (w q)) (addS q nv (g q) (w q) (A q) s) r) = (fun q => List.foldl (addS q nv (g q) (w q)) (A q ||| addS q nv (g q) (w q) 0 s) r) := funext fun q => by rw [addS_or]
    rw [e1]
    simp only [Bool.or_assoc] at h2 ⊢
    exact h2
theorem any_pos (f : St1 → Option St1) (l : List St1) : (l.any fun s => (f s).isSome) = decide (0 < (l.filterMap f).length) := by
  induction l with
  | nil => rfl
  | cons a r ih =>
    rw [List.any_cons, List.filterMap_cons, ih]
    cases h : f a <;> simp
theorem NS.need {p : Pg} : ∀ (d : Nat) (l : List St1) (L : List Bool), (∀ s ∈ l, stmtOK p d s = true) → L.length = p.vars.length + p.arrays.length →
    NS L (needL p.vars.length d l L).2 (needL p.vars.length d l L).1 (fun q => setN q p.vars.length d l) (fun q => decide (0 < (cutL q p.vars.length d l).length))
  | 0, l, L, h, _ => by
    have := NS.nil L
    simpa [needL, setN, cutL] using this
  | d + 1, l, L, h, hL => by
    have hone : ∀ s ∈ l, ∀ M : List Bool, M.length = L.length → NS M (needS p.vars.length (needL p.vars.length d) M s).2 (needS p.vars.length (needL p.vars.length d) M s).1 (fun q => addS q p.vars.length (cutL q p.vars.length d) (setN q p.vars.length d) 0 s) (fun q => (cutS q p.vars.length (cutL q p.vars.length d) s).isSome) := fun s hs M hM => by
      have hok := h s hs
      obtain ⟨k, t, ix, v, c, b, e⟩ := s
      have hbe := stmtOK_succ hok
      have hex := exprs_of hok
      have hb := NS.need d b M hbe.2.1 (by omega)
      have he := NS.need d e (needL p.vars.length d b M).2 hbe.2.2 (by rw [hb.len]; omega)
      have hU : ∀ M1 : List Bool, M1.length = L.length → ∀ i, gL (usesL p.vars.length 5 ix (usesL p.vars.length 5 v M1)) i = true ↔ gL M1 i = true ∨ (occN p.vars.length 5 v ||| occN p.vars.length 5 ix).testBit i = true := fun M1 hM1 i => by
        rw [usesE_mem i hex.1 _ (by rw [usesL_len]; omega), usesE_mem i hex.2 _ (by omega), Nat.testBit_or, Bool.or_eq_true, or_assoc]
      have hlen : ∀ M1 : List Bool, (usesL p.vars.length 5 ix (usesL p.vars.length 5 v M1)).length = M1.length := fun M1 => by rw [usesL_len, usesL_len]
      have h0 : ∀ q : Nat → Bool, 0 ||| (occN p.vars.length 5 v ||| occN p.vars.length 5 ix) = (occN p.vars.length 5 v ||| occN p.vars.length 5 ix) := fun q => Nat.zero_or _
      by_cases h5 : k = 5
      · have base : NS M M true (fun _ => 0) (fun _ => true) := ⟨rfl, fun i h => h, fun q' h _ => ⟨h, fun _ => rfl⟩, fun _ => ⟨subB_zero _, fun _ => rfl⟩⟩
        have := base.keep (U := usesL p.vars.length 5 ix (usesL p.vars.length 5 v M)) _ (hlen M) (hU M hM)
        simpa [needS, addS, cutS, h5] using this
      · by_cases h1 : k = 1
        · have base : NS M M (gL M t.toNat) (fun _ => 0) (fun q => q t.toNat) := ⟨rfl, fun i h => h, fun q' h _ => ⟨h, fun h1 => h _ h1⟩, fun _ => ⟨subB_zero _, fun h => h⟩⟩
          have := base.keep (U := usesL p.vars.length 5 ix (usesL p.vars.length 5 v M)) _ (hlen M) (hU M hM)
          have ek : ∀ q : Nat → Bool, (cutS q p.vars.length (cutL q p.vars.length d) (.mk k t ix v c b e)).isSome = q t.toNat := fun q => by simp only [cutS, h5, h1, if_false, if_true]; cases q t.toNat <;> simp
          simp only [addS, ek]
          simpa [needS, gL, h5, h1] using this
        · by_cases h2 : k = 2
          · have base : NS M M (gL M (p.vars.length + t.toNat)) (fun _ => 0) (fun q => q (p.vars.length + t.toNat)) := ⟨rfl, fun i h => h, fun q' h _ => ⟨h, fun h1 => h _ h1⟩, fun _ => ⟨subB_zero _, fun h => h⟩⟩
            have := base.keep (U := usesL p.vars.length 5 ix (usesL p.vars.length 5 v M)) _ (hlen M) (hU M hM)
            have ek : ∀ q : Nat → Bool, (cutS q p.vars.length (cutL q p.vars.length d) (.mk k t ix v c b e)).isSome = q (p.vars.length + t.toNat) := fun q => by simp only [cutS, h5, h1, h2, if_false, if_true]; cases q (p.vars.length + t.toNat) <;> simp
            simp only [addS, ek]
            simpa [needS, gL, h5, h1, h2] using this
          · have base := hb.seq he
            have hl2 : (needL p.vars.length d e (needL p.vars.length d b M).2).2.length = L.length := by rw [he.len, hb.len, hM]
            have := base.keep (U := usesL p.vars.length 5 ix (usesL p.vars.length 5 v (needL p.vars.length d e (needL p.vars.length d b M).2).2)) _ (hlen _) (hU _ hl2)
            have ek : ∀ q : Nat → Bool, (cutS q p.vars.length (cutL q p.vars.length d) (.mk k t ix v c b e)).isSome = (decide (0 < (cutL q p.vars.length d b).length) || decide (0 < (cutL q p.vars.length d e).length)) := fun q => by
              simp only [cutS, h5, h1, h2, if_false]
              by_cases hpos : 0 < (cutL q p.vars.length d b).length + (cutL q p.vars.length d e).length
              · rw [if_pos hpos]
                rcases Nat.lt_or_ge 0 (cutL q p.vars.length d b).length with h | h
                · simp [h]
                · have : 0 < (cutL q p.vars.length d e).length := by omega
                  simp [this]
              · rw [if_neg hpos]
                have h1 : ¬ 0 < (cutL q p.vars.length d b).length := by omega
                have h2 : ¬ 0 < (cutL q p.vars.length d e).length := by omega
                simp only [h1, h2]; rfl
            simp only [addS, ek]
            have hc : ¬ (k = 5 ∨ k = 1 ∨ k = 2) := by omega
            simp only [needS, h5, h1, h2, if_false, or_self, Nat.zero_or]
            exact this
    have := NS.fold p.vars.length (needL p.vars.length d) (fun q => cutL q p.vars.length d) (fun q => setN q p.vars.length d) L l (false, L) _ _ hone (NS.nil L)
    simp only [any_pos, Bool.false_or] at this
    exact this

/-- The reference's loop: an invariant, and what holds where it ends. -/
structure Under (p : Pg) (ws L : List Bool) : Prop where
  len : L.length = p.vars.length + p.arrays.length
  want : leB (gL ws) (gL L)
  least : ∀ q' : Nat → Bool, (∀ i, ws.getD i false = true → q' i = true) → subB (setN q' p.vars.length 5 p.body) q' → leB (gL L) q'
theorem Under.start {p : Pg} {ws : List Bool} (h : ws.length = p.vars.length + p.arrays.length) : Under p ws ws := ⟨h, fun i h => h, fun q' h1 _ i h => h1 i h⟩
theorem Under.next {p : Pg} {ws L : List Bool} (hb : ∀ s ∈ p.body, stmtOK p 5 s = true) (h : Under p ws L) : Under p ws (needL p.vars.length 5 p.body L).2 := by
  have n := NS.need 5 p.body L hb h.len
  exact ⟨by rw [n.len, h.len], fun i hi => n.s1 i (h.want i hi), fun q' h1 h2 => (n.s2 q' (h.least q' h1 h2) h2).1⟩
theorem Under.stop {p : Pg} {ws L : List Bool} (hb : ∀ s ∈ p.body, stmtOK p 5 s = true) (h : Under p ws L) (hs : (jnA L (needL p.vars.length 5 p.body L).2 L.length).1 = false) :
    (needL p.vars.length 5 p.body L).2 = L ∧ Least p ws (gL L) := by
  have n := NS.need 5 p.body L hb h.len
  have hle : leB (gL (needL p.vars.length 5 p.body L).2) (gL L) := fun i hi => by
    cases hq : gL L i with
    | true => rfl
    | false =>
      have hlt : i < L.length := by
        rcases Nat.lt_or_ge i (needL p.vars.length 5 p.body L).2.length with h1 | h1
        · rw [n.len] at h1; exact h1
        · simp only [gL, List.getD_eq_getElem?_getD, List.getElem?_eq_none h1, Option.getD_none] at hi; cases hi
      have := (jnA_iff L (needL p.vars.length 5 p.body L).2 L.length).2 ⟨i, hlt, hi, hq⟩
      rw [hs] at this; cases this
  exact ⟨gL_ext n.len n.s1 hle, fun i hi => h.want i hi, (n.s3 hle).1, fun q' h1 h2 => h.least q' h1 h2⟩
/-- How many cells are out: falls where the loop goes on. -/
def outs (L : List Bool) : Nat := L.count false
theorem outs_le : ∀ (L L' : List Bool), L'.length = L.length → leB (gL L) (gL L') → outs L' ≤ outs L ∧ (∀ i, gL L i = false → gL L' i = true → outs L' < outs L)
  | [], L', h, _ => by
    have : L' = [] := List.eq_nil_of_length_eq_zero h
    subst this
    exact ⟨Nat.le_refl _, fun i _ h => by simp [gL] at h⟩
  | a :: r, [], h, _ => by simp at h
  | a :: r, a' :: r', h, hle => by
    have ih := outs_le r r' (by simpa using h) (fun i hi => by have := hle (i + 1); simpa [gL] using this (by simpa [gL] using hi))
    have h0 := hle 0
    have h0 : a = true → a' = true := by simpa [gL] using h0
    unfold outs at ih ⊢
    rw [List.count_cons, List.count_cons]
    refine ⟨?_, fun i hi hi' => ?_⟩
    · cases a <;> cases a' <;> simp_all <;> omega
    · cases i with
      | zero =>
        simp [gL] at hi hi'
        subst hi hi'
        simp
        omega
      | succ i =>
        have h3 := ih.2 i (by simpa [gL] using hi) (by simpa [gL] using hi')
        cases a <;> cases a' <;> simp_all <;> omega
theorem Under.go {p : Pg} {ws L : List Bool} (hb : ∀ s ∈ p.body, stmtOK p 5 s = true) (h : Under p ws L) (hs : (jnA L (needL p.vars.length 5 p.body L).2 L.length).1 = true) : outs (needL p.vars.length 5 p.body L).2 < outs L := by
  have n := NS.need 5 p.body L hb h.len
  obtain ⟨i, _, h1, h2⟩ := (jnA_iff L (needL p.vars.length 5 p.body L).2 L.length).1 hs
  exact (outs_le L _ n.len n.s1).2 i h2 h1
end Go.Proofs.YtmagbjbanpgmhaaGreat.CtD
