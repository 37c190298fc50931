/- Contracts of functions of the program, one behind the other, as plain data: what each call returns and which blocks it leaves. -/
import Derived.Test.YtmagbjbanpgmhaaFacts
import Derived.Test.YtmagbjbanpgmhaaAj
import Derived.Test.YtmagbjbanpgmhaaAk
import Derived.Test.YtmagbjbanpgmhaaAm
import Derived.Test.YtmagbjbanpgmhaaAn
import Derived.Test.YtmagbjbanpgmhaaAq
import Derived.Test.YtmagbjbanpgmhaaAr
import Derived.Test.YtmagbjbanpgmhaaAl
import Derived.Test.YtmagbjbanpgmhaaAs
import Derived.Test.YtmagbjbanpgmhaaAt
import Derived.Test.YtmagbjbanpgmhaaAv
import Derived.Test.YtmagbjbanpgmhaaAw
import Derived.Test.YtmagbjbanpgmhaaAx
import Derived.Test.YtmagbjbanpgmhaaAo
import Derived.Test.YtmagbjbanpgmhaaAu
set_option linter.unusedVariables false
set_option linter.unusedSimpArgs false
set_option maxHeartbeats 16000000
set_option maxRecDepth 100000
namespace Go.Proofs.Ytmagbjbanpgmhaa.CtD
open Go Go.CT CtF CtR

theorem ownListExprOf (ks : List Ex) (hlk : ks.length ≤ 3) (ih : ∀ e ∈ ks, DC Try.prog 112 [.agg e.cells] [] (fun r h => r = .agg e.cells ∧ h = [])) : DC Try.prog 127 [.c (.isl 3 (Ex.cellsL ks))] [] (fun r h => r = .c (.isl 3 (Ex.cellsL ks)) ∧ h = []) := by
  have hmx := mx_eq
  refine dcZ Try.func127 ?_
  simp (maxSteps := 9999999) only [go_sem]
  iterate 2 ((try (refine drvZ Try.func127 ?_; simp (maxSteps := 9999999) only [go_sem])); (try ((with_reducible refine And.intro ?_ ?_) <;> (repeat' with_reducible apply And.intro) <;> try exact sd)))
  refine Go.loopQ (fun i : Nat => [(3, .c (.msl 64 3 0 i)), (7, .c (.isl 3 (Ex.cellsL ks))), (8, DI .i64 ks.length), (9, DI .i64 i)]) (fun i => [(64, some (exC (ks.take i)))])
    4096 (fun i => i ≤ ks.length) (fun i => ks.length - i) ?_ 0 some [] _ (Nat.zero_le _) ?_
  · intro i hi again
    rcases Nat.lt_or_ge i ks.length with hlt | hge
    · obtain ⟨⟨k', v', ks'⟩, hx⟩ : ∃ x, ks[i]? = some x := ⟨ks[i], by simp [hlt]⟩
      have hsx : ks.take (i + 1) = ks.take i ++ [.mk k' v' ks'] := by rw [List.take_add_one, hx]; rfl
      have hel : (exC (ks.take i)).length = i * 3 := by rw [exC_len, List.length_take]; congr 1; omega
      have hih := ih _ (List.mem_of_getElem? hx)
      refine drvL Try.func127 ?_
      simp (maxSteps := 9999999) only [go_sem, hx, hlt]
      iterate 6 ((try (refine drvZ Try.func127 ?_; simp (maxSteps := 9999999) only [go_sem, hx, hlt])); (try ((with_reducible refine And.intro ?_ ?_) <;> (repeat' with_reducible apply And.intro) <;> try exact sd)); (try first | refine XK.p hih ok112 ?_ | refine XK.gp hih ok112 ?_))
      refine again (i + 1) (fun j => if j = 64 then some 4672 else some j) [] _ hlt (by omega) ?_
      simp (maxSteps := 9999999) only [go_sem, TmOK, DM, DMs, CM, CMs, forall_eq, exists_eq_left, Mq, HpOK, LowOK, hsx, exC_snoc]
      simp
      exact CMs.kf (kf_app (exC_kf _) (by simp [kf]))
    · have hn : ¬ i < ks.length := by omega
      obtain rfl : i = ks.length := by omega
      refine drvL Try.func127 ?_
      simp (maxSteps := 9999999) only [go_sem, hn, List.take_length]
      iterate 2 ((try (refine drvZ Try.func127 ?_; simp (maxSteps := 9999999) only [go_sem, hn, List.take_length])); (try ((with_reducible refine And.intro ?_ ?_) <;> (repeat' with_reducible apply And.intro) <;> try exact sd)))
      refine RetOb.ofQ (fun j => none) [64] (.c (.isl 3 (Ex.cellsL ks))) [] ?_ ⟨rfl, rfl⟩ (by simp)
      have g1 : (Ex.cellsL ks).flatten = exC ks := by rw [Ex.cellsL_eq]; rfl
      have g2 : ∀ x ∈ Ex.cellsL ks, x.length = 3 := fun x hx => by rw [Ex.cellsL_eq] at hx; obtain ⟨e, _, rfl⟩ := List.mem_map.1 hx; exact Ex.cells_len e
      have g3 : ∀ x ∈ Ex.cellsL ks, ∀ c ∈ x, kf c = true := fun x hx => by rw [Ex.cellsL_eq] at hx; obtain ⟨e, _, rfl⟩ := List.mem_map.1 hx; exact ex_kf e
      simp only [enumL, hOf, DM, DMs, CM, CMs, HpOK, LowOK, upd, Ex.cells, Ex.cellsL_length, g1]
      first | (simp; exact ⟨g2, g3⟩) | (simp [g2]; exact g3) | exact ⟨g2, g3⟩
  · simp (maxSteps := 9999999) only [go_sem, TmOK, DM, DMs, CM, CMs, forall_eq, exists_eq_left, Mq, HpOK, LowOK]
    simp [exC, CMs]
theorem ownExpr (e : Ex) (he : SmE e) : DC Try.prog 112 [.agg e.cells] [] (fun r h => r = .agg e.cells ∧ h = []) := by
  have hmx := mx_eq
  induction he with
  | mk k v ks hlen hall ih =>
    have ih := ownListExprOf ks hlen ih
    refine dcZ Try.func112 ?_
    simp (maxSteps := 9999999) only [go_sem]
    iterate 4 ((try (refine drvZ Try.func112 ?_; simp (maxSteps := 9999999) only [go_sem])); (try ((with_reducible refine And.intro ?_ ?_) <;> (repeat' with_reducible apply And.intro) <;> try exact sd)); (try first | refine XK.p ih ok127 ?_ | refine XK.gp ih ok127 ?_))
    exact RetOb.plain ⟨rfl, rfl⟩ (by simp [kD, kf])
theorem ownStmtOf (k t : Int) (ix v : Ex) (c : Int) (b e : List St1) (h1 : SmE ix) (h2 : SmE v) (hb : DC Try.prog 64 [.c (.isl 11 (St1.cellsL b))] [] (fun r h => r = .c (.isl 11 (St1.cellsL b)) ∧ h = []))
    (he : DC Try.prog 64 [.c (.isl 11 (St1.cellsL e))] [] (fun r h => r = .c (.isl 11 (St1.cellsL e)) ∧ h = [])) : DC Try.prog 96 [.agg (St1.cells (.mk k t ix v c b e))] [] (fun r h => r = .agg (St1.cells (.mk k t ix v c b e)) ∧ h = []) := by
  have hmx := mx_eq
  obtain ⟨ik, iv, iks⟩ := ix
  obtain ⟨vk, vv, vks⟩ := v
  have hi := ownExpr _ h1
  have hv := ownExpr _ h2
  simp only [Ex.cells] at hi hv
  refine dcZ Try.func96 ?_
  simp (maxSteps := 9999999) only [go_sem]
  iterate 8 ((try (refine drvZ Try.func96 ?_; simp (maxSteps := 9999999) only [go_sem])); (try ((with_reducible refine And.intro ?_ ?_) <;> (repeat' with_reducible apply And.intro) <;> try exact sd)); (try first | refine XK.p hi ok112 ?_ | refine XK.gp hi ok112 ?_ | refine XK.p hv ok112 ?_ | refine XK.gp hv ok112 ?_ | refine XK.p hb ok64 ?_ | refine XK.gp hb ok64 ?_ | refine XK.p he ok64 ?_ | refine XK.gp he ok64 ?_))
  exact RetOb.plain ⟨rfl, rfl⟩ (by simp [kD, kf])
theorem ownListStmtOf (l : List St1) (hl : l.length ≤ 1000000) (ih : ∀ s ∈ l, DC Try.prog 96 [.agg s.cells] [] (fun r h => r = .agg s.cells ∧ h = [])) : DC Try.prog 64 [.c (.isl 11 (St1.cellsL l))] [] (fun r h => r = .c (.isl 11 (St1.cellsL l)) ∧ h = []) := by
  have hmx := mx_eq
  refine dcZ Try.func64 ?_
  simp (maxSteps := 9999999) only [go_sem]
  iterate 2 ((try (refine drvZ Try.func64 ?_; simp (maxSteps := 9999999) only [go_sem])); (try ((with_reducible refine And.intro ?_ ?_) <;> (repeat' with_reducible apply And.intro) <;> try exact sd)))
  refine Go.loopQ (fun i : Nat => [(3, .c (.msl 64 11 0 i)), (7, .c (.isl 11 (St1.cellsL l))), (8, DI .i64 l.length), (9, DI .i64 i)]) (fun i => [(64, some (stC (l.take i)))])
    4096 (fun i => i ≤ l.length) (fun i => l.length - i) ?_ 0 some [] _ (Nat.zero_le _) ?_
  · intro i hi again
    rcases Nat.lt_or_ge i l.length with hlt | hge
    · obtain ⟨⟨k, t, ⟨ik, iv, iks⟩, ⟨vk, vv, vks⟩, c, b, e⟩, hx⟩ : ∃ x, l[i]? = some x := ⟨l[i], by simp [hlt]⟩
      have hsx : l.take (i + 1) = l.take i ++ [.mk k t (.mk ik iv iks) (.mk vk vv vks) c b e] := by rw [List.take_add_one, hx]; rfl
      have hel : (stC (l.take i)).length = i * 11 := by rw [stC_len, List.length_take]; congr 1; omega
      have hih := ih _ (List.mem_of_getElem? hx)
      simp only [St1.cells, Ex.cells, List.cons_append, List.nil_append] at hih
      refine drvL Try.func64 ?_
      simp (maxSteps := 9999999) only [go_sem, hx, hlt]
      iterate 6 ((try (refine drvZ Try.func64 ?_; simp (maxSteps := 9999999) only [go_sem, hx, hlt])); (try ((with_reducible refine And.intro ?_ ?_) <;> (repeat' with_reducible apply And.intro) <;> try exact sd)); (try first | refine XK.p hih ok96 ?_ | refine XK.gp hih ok96 ?_))
      refine again (i + 1) (fun j => if j = 64 then some 4672 else some j) [] _ hlt (by omega) ?_
      simp (maxSteps := 9999999) only [go_sem, TmOK, DM, DMs, CM, CMs, forall_eq, exists_eq_left, Mq, HpOK, LowOK, hsx, stC_snoc, List.cons_append, List.nil_append]
      simp
      exact CMs.kf (kf_app (stC_kf _) (by simp [kf]))
    · have hn : ¬ i < l.length := by omega
      obtain rfl : i = l.length := by omega
      refine drvL Try.func64 ?_
      simp (maxSteps := 9999999) only [go_sem, hn, List.take_length]
      iterate 2 ((try (refine drvZ Try.func64 ?_; simp (maxSteps := 9999999) only [go_sem, hn, List.take_length])); (try ((with_reducible refine And.intro ?_ ?_) <;> (repeat' with_reducible apply And.intro) <;> try exact sd)))
      refine RetOb.ofQ (fun j => none) [64] (.c (.isl 11 (St1.cellsL l))) [] ?_ ⟨rfl, rfl⟩ (by simp)
      have g1 : (St1.cellsL l).flatten = stC l := by rw [St1.cellsL_eq]; rfl
      have g2 : ∀ x ∈ St1.cellsL l, x.length = 11 := fun x hx => by rw [St1.cellsL_eq] at hx; obtain ⟨e, _, rfl⟩ := List.mem_map.1 hx; exact St1.cells_len e
      have g3 : ∀ x ∈ St1.cellsL l, ∀ c ∈ x, kf c = true := fun x hx => by rw [St1.cellsL_eq] at hx; obtain ⟨e, _, rfl⟩ := List.mem_map.1 hx; exact st_kf e
      simp only [enumL, hOf, DM, DMs, CM, CMs, HpOK, LowOK, upd, St1.cellsL_length, g1]
      first | (simp; exact ⟨g2, g3⟩) | (simp [g2]; exact g3) | exact ⟨g2, g3⟩
  · simp (maxSteps := 9999999) only [go_sem, TmOK, DM, DMs, CM, CMs, forall_eq, exists_eq_left, Mq, HpOK, LowOK]
    simp [stC, CMs]
theorem ownStmt : ∀ (d : Nat) (s : St1), SmS d s → DC Try.prog 96 [.agg s.cells] [] (fun r h => r = .agg s.cells ∧ h = [])
  | 0, .mk k t ix v c b e, h => by
    simp only [SmS] at h
    obtain ⟨h1, h2, rfl, rfl⟩ := h
    have hn := ownListStmtOf [] (by simp) (by simp)
    exact ownStmtOf k t ix v c [] [] h1 h2 hn hn
  | d + 1, .mk k t ix v c b e, h => by
    simp only [SmS] at h
    obtain ⟨h1, h2, h3, h4, h5, h6⟩ := h
    exact ownStmtOf k t ix v c b e h1 h2 (ownListStmtOf b (by omega) fun s hs => ownStmt d s (h5 s hs)) (ownListStmtOf e (by omega) fun s hs => ownStmt d s (h6 s hs))
theorem ownProgram (p : Pg) (hp : SmP p) : DC Try.prog 34 [.agg p.cells] [] (fun r h => r = .agg p.cells ∧ h = []) := by
  have hmx := mx_eq
  have hbd := ownListStmtOf p.body (by have := hp.nb; omega) fun s hs => ownStmt 2 s (hp.sm s hs)
  have hv := hp.nv
  have ha := hp.na
  obtain ⟨vs, ar, bd⟩ := p
  simp only at hv ha hbd
  have hgv := flat_I vs
  have hga := flat_I ar
  refine dcZ Try.func34 ?_
  simp (maxSteps := 9999999) only [go_sem, flat_I']
  iterate 8 ((try (refine drvZ Try.func34 ?_; simp (maxSteps := 9999999) only [go_sem, flat_I'])); (try ((with_reducible refine And.intro ?_ ?_) <;> (repeat' with_reducible apply And.intro) <;> try exact sd)); (try first | refine XK.p hbd ok64 ?_ | refine XK.gp hbd ok64 ?_))
  refine RetOb.ofQ (fun j => none) [320, 704] (.agg [.isl 1 (vs.map fun n => [I64 n]), .isl 1 (ar.map fun n => [I64 n]), .isl 11 (St1.cellsL bd)]) [] ?_ ⟨rfl, rfl⟩ (by simp)
  simp [enumL, hOf, DM, CM, CMs, HpOK, LowOK, upd, hgv, hga, kf, List.take_of_length_le]
end Go.Proofs.Ytmagbjbanpgmhaa.CtD

namespace Go.Proofs.Ytmagbjbanpgmhaa.CtD
set_option pp.maxSteps 300000
set_option pp.deepTerms true
open Go Go.CT CtF CtR

def st0 (w : Nat) : List Nat := (List.range w).map fun i => 2 ^ i
theorem st0_len (w : Nat) : (st0 w).length = w := by simp [st0]
theorem st0_succ {w i : Nat} (h : i < w) : rowsC w ((st0 w).take (i + 1)) = rowsC w ((st0 w).take i) ++ [boolsD (bl w (2 ^ i))] :=
  rowsC_succ w (st0 w) i (2 ^ i) (by simp [st0, h])
theorem bl_one {w i : Nat} (h : i < w) : (boolsC (bl w 0)).set i (.v (.bool true)) = boolsC (bl w (2 ^ i)) := by
  rw [boolsC_set]
  congr 1
  refine bl_ext (by simp [bl_len]) fun j hj => ?_
  rw [List.getD_eq_getElem?_getD, List.getElem?_set]
  by_cases e : i = j
  · subst e; simp [bl_len, h]
  · rw [if_neg e, ← bl_zero, List.getElem?_replicate, if_pos hj, Nat.testBit_two_pow]; simp [e]
theorem startS {w : Nat} (p : Pg) (hw : p.vars.length + p.arrays.length = w) (hw14 : w ≤ 14) (w0 : 0 < w) : DC Try.prog 36 [.agg p.cells] []
    (fun r h => r = .agg (p.cells ++ [rowsD w (startD w).sets, .msl 0 1 0 w, .msl 1 1 0 w]) ∧ h = [some (boolsC (bl w 0)), some (boolsC (bl w 0))]) := by
  have hmx := mx_eq
  have hce := cellsS p (by omega) (by omega)
  rw [hw] at hce
  obtain ⟨vs, ar, bd⟩ := p
  have hw : vs.length + ar.length = w := hw
  generalize hR : (fun (r : D) (h : List (Option (List C))) => r = .agg _ ∧ h = _) = R
  have hz : boolsC (List.replicate w false) = boolsC (bl w 0) := by rw [bl_zero]
  refine dcZ Try.func36 ?_
  simp (maxSteps := 9999999) only [go_sem]
  iterate 4 ((try (refine drvZ Try.func36 ?_; simp (maxSteps := 9999999) only [go_sem, boolsC_rep, bl_zero])); (try ((with_reducible refine And.intro ?_ ?_) <;> (repeat' with_reducible apply And.intro) <;> try exact sd)); (try first | refine XK.p hce ok38 ?_ | refine XK.gp hce ok38 ?_))
  refine Go.loopQ (fun i : Nat => [(2, .c (.ptr 64 0)), (3, DI .i64 w), (4, .c (.ptr 704 0)), (5, DI .i64 i)])
    (fun i => [(64, some [.v (.slice none 0 0), .v (.slice none 0 0), .v (.slice none 0 0), .v (.slice none 0 0), .v (.slice none 0 0), .v (.slice none 0 0)]), (448, some (boolsC (bl w 0))), (576, some (boolsC (bl w 0))), (704, some (Pg.cells ⟨vs, ar, bd⟩ ++ [.msl 800 1 0 i, .msl 448 1 0 w, .msl 576 1 0 w])), (800, some (rowsC w ((st0 w).take i)))])
    4096 (fun i => i ≤ w) (fun i => w - i) ?_ 0 (fun j => if j = 800 then none else some j) [] _ (Nat.zero_le _) ?_
  · intro i hi again
    have hcl := rowsC_len w ((st0 w).take i)
    rw [List.length_take, st0_len, Nat.min_eq_left hi] at hcl
    rcases Nat.lt_or_ge i w with hlt | hge
    · have hbo := bl_one hlt
      have hsn := st0_succ hlt
      have hbl := bl_len w 0
      have hbc := boolsC_len (bl w 0)
      rw [hbl] at hbc
      refine drvL Try.func36 ?_
      simp (maxSteps := 9999999) only [go_sem, hlt, boolsC_rep, bl_zero]
      iterate 3 ((try (refine drvZ Try.func36 ?_; simp (maxSteps := 9999999) only [go_sem, hlt, boolsC_rep, bl_zero, hbo, hcl, hbc])); (try ((with_reducible refine And.intro ?_ ?_) <;> (repeat' with_reducible apply And.intro) <;> try exact sd)))
      refine again (i + 1) (fun j => if j = 800 then some 4992 else some j) [4352] _ hlt (by omega) ?_
      rw [hsn]
      simp (maxSteps := 9999999) only [go_sem, TmOK, DM, DMs, CM, CMs, forall_eq, exists_eq_left, Mq, HpOK, LowOK]
      repeat' with_reducible apply And.intro
      all_goals first | exact CMs.kf (boolsC_kf _) | (simp; done) | exact CMs.app (CMs.kf (rowsC_kf _ _)) ⟨cm_bools (by simp) rfl, by simp [CMs]⟩ | skip
    · have hn : ¬ i < w := by omega
      obtain rfl : w = i := by omega
      rw [List.take_of_length_le (by rw [st0_len]; omega)]
      refine drvL Try.func36 ?_
      simp (maxSteps := 9999999) only [go_sem, hn]
      iterate 2 ((try (refine drvZ Try.func36 ?_; simp (maxSteps := 9999999) only [go_sem, hn])); (try ((with_reducible refine And.intro ?_ ?_) <;> (repeat' with_reducible apply And.intro) <;> try exact sd)))
      refine RetOb.ofQ (fun j => if j = 0 then some 448 else if j = 1 then some 576 else none) [800] (.agg (Pg.cells ⟨vs, ar, bd⟩ ++ [rowsD w (startD w).sets, .msl 0 1 0 w, .msl 1 1 0 w])) [some (boolsC (bl w 0)), some (boolsC (bl w 0))] ?_ (by rw [← hR]; exact ⟨rfl, rfl⟩) (by simp)
      simp only [enumL, DM, DMs, HpOK, LowOK, hOf, upd, hpL, Pg.cells, isI, I64, List.cons_append, List.nil_append, CMs]
      repeat' with_reducible apply And.intro
      all_goals first | exact cm_rows (by simp) rfl (st0_len w) | exact CM.kf rfl | exact CMs.kf (boolsC_kf _) | (simp [CM, upd]; done) | (simp; exact CMs.kf (boolsC_kf _)) | skip
  · simp (maxSteps := 9999999) only [go_sem, TmOK, DM, DMs, CM, CMs, forall_eq, exists_eq_left, Mq, HpOK, LowOK]
    simp
    repeat' with_reducible apply And.intro
    all_goals first | exact CMs.kf (boolsC_kf _) | (simp [rowsC, CMs]; done) | skip
theorem depP_eq (p : Pg) {w : Nat} (hw : p.vars.length + p.arrays.length = w) : foldD p.vars.length 5 0 p.body (startD w) = depP p := by rw [← hw]; rfl
theorem traceDependsS (p : Pg) {w : Nat} (hw : p.vars.length + p.arrays.length = w) (hw14 : w ≤ 14) (w0 : 0 < w) (hp : SmP p) (hok : progOK p = true) : DC Try.prog 17 [.agg p.cells] [] (fun r h => r = .c (boolsD (bl w (depP p).tr)) ∧ h = []) := by
  have hmx := mx_eq
  have hown := ownProgram p hp
  have hv := programValidS p (by omega) (by omega) (by have := hp.sz 5; omega)
  rw [hok] at hv
  have hst := startS p hw hw14 w0
  have hbk := blockD p hw hw14 w0 5 p.body (startD w) 0 (start_ok hw14) (Nat.two_pow_pos w) (body_of hok).1 (by have := (body_of hok).2; omega)
  rw [depP_eq p hw] at hbk
  have hce := cellsS p (by omega) (by omega)
  rw [hw] at hce
  generalize depP p = X at *
  obtain ⟨xs, xt, xr⟩ := X
  obtain ⟨vs, ar, bd⟩ := p
  generalize hR : (fun (r : D) (h : List (Option (List C))) => r = .c _ ∧ h = []) = R
  simp only at hbk
  refine dcZ Try.func17 ?_
  simp (maxSteps := 9999999) only [go_sem]
  iterate 6 ((try (refine drvZ Try.func17 ?_; simp (maxSteps := 9999999) only [go_sem])); (try ((with_reducible refine And.intro ?_ ?_) <;> (repeat' with_reducible apply And.intro) <;> try exact sd)); (try first | refine XK.p hown ok34 ?_ | refine XK.gp hown ok34 ?_ | refine XK.p hv ok35 ?_ | refine XK.gp hv ok35 ?_))
  refine XK.callG [] hst ok36 (fun i' x h => by simp at h) (hbT ()) (fun d h' ⟨_, e⟩ => by subst e; simp) ?_
  rintro _ _ ⟨rfl, rfl⟩ _
  iterate 4 ((try (refine drvZ Try.func17 ?_; simp (maxSteps := 9999999) only [go_sem, boolsC_ren, rowsD, boolsC_rep, bl_zero])); (try ((with_reducible refine And.intro ?_ ?_) <;> (repeat' with_reducible apply And.intro) <;> try exact sd)); (try first | refine XK.p hce ok38 ?_ | refine XK.gp hce ok38 ?_))
  refine XK.callG [576, 577, 1088] hbk ok37 (hhpG (by simp [HH, upd, hOf, boolsC_ren, startD])) (hbT ()) (fun d h' ⟨_, e⟩ => by subst e; simp) ?_ (fun _ => ⟨by kernel_rfl, _, _, ⟨rfl, rfl⟩, by simp⟩)
  rintro _ _ ⟨rfl, rfl⟩ _
  iterate 3 ((try (refine drvZ Try.func17 ?_; simp (maxSteps := 9999999) only [go_sem, boolsC_ren, rowsD])); (try ((with_reducible refine And.intro ?_ ?_) <;> (repeat' with_reducible apply And.intro) <;> try exact sd)))
  refine RetOb.frozen (xs := (bl w xt).map fun b => [BC b]) (by rw [← hR]; exact ⟨rfl, rfl⟩) (k := 576) ?_ (by simp [bl_len]) ?_ ?_
  · rw [boolsC_flat]; simp [upd]
  · intro x hx
    obtain ⟨b, _, rfl⟩ := List.mem_map.1 hx
    rfl
  · intro x hx c hc
    obtain ⟨b, _, rfl⟩ := List.mem_map.1 hx
    simp only [List.mem_singleton] at hc
    subst hc; rfl
theorem releaseDependsS (p : Pg) {w : Nat} (hw : p.vars.length + p.arrays.length = w) (hw14 : w ≤ 14) (w0 : 0 < w) (hp : SmP p) (hok : progOK p = true) : DC Try.prog 21 [.agg p.cells] [] (fun r h => r = .c (boolsD (bl w (depP p).re)) ∧ h = []) := by
  have hmx := mx_eq
  have hown := ownProgram p hp
  have hv := programValidS p (by omega) (by omega) (by have := hp.sz 5; omega)
  rw [hok] at hv
  have hst := startS p hw hw14 w0
  have hbk := blockD p hw hw14 w0 5 p.body (startD w) 0 (start_ok hw14) (Nat.two_pow_pos w) (body_of hok).1 (by have := (body_of hok).2; omega)
  rw [depP_eq p hw] at hbk
  have hce := cellsS p (by omega) (by omega)
  rw [hw] at hce
  generalize depP p = X at *
  obtain ⟨xs, xt, xr⟩ := X
  obtain ⟨vs, ar, bd⟩ := p
  generalize hR : (fun (r : D) (h : List (Option (List C))) => r = .c _ ∧ h = []) = R
  simp only at hbk
  refine dcZ Try.func21 ?_
  simp (maxSteps := 9999999) only [go_sem]
  iterate 6 ((try (refine drvZ Try.func21 ?_; simp (maxSteps := 9999999) only [go_sem])); (try ((with_reducible refine And.intro ?_ ?_) <;> (repeat' with_reducible apply And.intro) <;> try exact sd)); (try first | refine XK.p hown ok34 ?_ | refine XK.gp hown ok34 ?_ | refine XK.p hv ok35 ?_ | refine XK.gp hv ok35 ?_))
  refine XK.callG [] hst ok36 (fun i' x h => by simp at h) (hbT ()) (fun d h' ⟨_, e⟩ => by subst e; simp) ?_
  rintro _ _ ⟨rfl, rfl⟩ _
  iterate 4 ((try (refine drvZ Try.func21 ?_; simp (maxSteps := 9999999) only [go_sem, boolsC_ren, rowsD, boolsC_rep, bl_zero])); (try ((with_reducible refine And.intro ?_ ?_) <;> (repeat' with_reducible apply And.intro) <;> try exact sd)); (try first | refine XK.p hce ok38 ?_ | refine XK.gp hce ok38 ?_))
  refine XK.callG [576, 577, 1088] hbk ok37 (hhpG (by simp [HH, upd, hOf, boolsC_ren, startD])) (hbT ()) (fun d h' ⟨_, e⟩ => by subst e; simp) ?_ (fun _ => ⟨by kernel_rfl, _, _, ⟨rfl, rfl⟩, by simp⟩)
  rintro _ _ ⟨rfl, rfl⟩ _
  iterate 3 ((try (refine drvZ Try.func21 ?_; simp (maxSteps := 9999999) only [go_sem, boolsC_ren, rowsD])); (try ((with_reducible refine And.intro ?_ ?_) <;> (repeat' with_reducible apply And.intro) <;> try exact sd)))
  refine RetOb.frozen (xs := (bl w xr).map fun b => [BC b]) (by rw [← hR]; exact ⟨rfl, rfl⟩) (k := 577) ?_ (by simp [bl_len]) ?_ ?_
  · rw [boolsC_flat]; simp [upd]
  · intro x hx
    obtain ⟨b, _, rfl⟩ := List.mem_map.1 hx
    rfl
  · intro x hx c hc
    obtain ⟨b, _, rfl⟩ := List.mem_map.1 hx
    simp only [List.mem_singleton] at hc
    subst hc; rfl
theorem dependsOnS (p : Pg) {w : Nat} (hw : p.vars.length + p.arrays.length = w) (hw14 : w ≤ 14) (w0 : 0 < w) (hp : SmP p) (hok : progOK p = true) : DC Try.prog 12 [.agg p.cells] [] (fun r h => r = .c (rowsD w (depP p).sets) ∧ h = []) := by
  have hmx := mx_eq
  have hown := ownProgram p hp
  have hv := programValidS p (by omega) (by omega) (by have := hp.sz 5; omega)
  rw [hok] at hv
  have hst := startS p hw hw14 w0
  have hbk := blockD p hw hw14 w0 5 p.body (startD w) 0 (start_ok hw14) (Nat.two_pow_pos w) (body_of hok).1 (by have := (body_of hok).2; omega)
  rw [depP_eq p hw] at hbk
  have hce := cellsS p (by omega) (by omega)
  rw [hw] at hce
  generalize depP p = X at *
  obtain ⟨xs, xt, xr⟩ := X
  obtain ⟨vs, ar, bd⟩ := p
  generalize hR : (fun (r : D) (h : List (Option (List C))) => r = .c _ ∧ h = []) = R
  simp only at hbk
  refine dcZ Try.func12 ?_
  simp (maxSteps := 9999999) only [go_sem]
  iterate 6 ((try (refine drvZ Try.func12 ?_; simp (maxSteps := 9999999) only [go_sem])); (try ((with_reducible refine And.intro ?_ ?_) <;> (repeat' with_reducible apply And.intro) <;> try exact sd)); (try first | refine XK.p hown ok34 ?_ | refine XK.gp hown ok34 ?_ | refine XK.p hv ok35 ?_ | refine XK.gp hv ok35 ?_))
  refine XK.callG [] hst ok36 (fun i' x h => by simp at h) (hbT ()) (fun d h' ⟨_, e⟩ => by subst e; simp) ?_
  rintro _ _ ⟨rfl, rfl⟩ _
  iterate 4 ((try (refine drvZ Try.func12 ?_; simp (maxSteps := 9999999) only [go_sem, boolsC_ren, rowsD, boolsC_rep, bl_zero])); (try ((with_reducible refine And.intro ?_ ?_) <;> (repeat' with_reducible apply And.intro) <;> try exact sd)); (try first | refine XK.p hce ok38 ?_ | refine XK.gp hce ok38 ?_))
  refine XK.callG [576, 577, 1088] hbk ok37 (hhpG (by simp [HH, upd, hOf, boolsC_ren, startD])) (hbT ()) (fun d h' ⟨_, e⟩ => by subst e; simp) ?_ (fun _ => ⟨by kernel_rfl, _, _, ⟨rfl, rfl⟩, by simp⟩)
  rintro _ _ ⟨rfl, rfl⟩ _
  iterate 3 ((try (refine drvZ Try.func12 ?_; simp (maxSteps := 9999999) only [go_sem, boolsC_ren, rowsD])); (try ((with_reducible refine And.intro ?_ ?_) <;> (repeat' with_reducible apply And.intro) <;> try exact sd)))
  exact RetOb.plain (d := .c (rowsD w xs)) (by rw [← hR]; exact ⟨rfl, rfl⟩) rfl
end Go.Proofs.Ytmagbjbanpgmhaa.CtD

namespace Go.Proofs.Ytmagbjbanpgmhaa.CtR
open Go Go.CT CtF

theorem bt_start {w k i : Nat} (hk : k < w) : bt k (startD w).sets i = false → i ≠ k := fun h e => by
  subst e
  unfold bt dat startD at h
  rw [List.getD_eq_getElem?_getD] at h
  simp [hk] at h
/-- What differs in one cell only. -/
structure OneM (k nv : Nat) (a b : Mm) : Prop where
  lv : a.vals.length = b.vals.length
  la : a.arrays.length = b.arrays.length
  val : ∀ i, i < nv → i ≠ k → a.vals[i]? = b.vals[i]?
  arr : ∀ i, nv + i ≠ k → a.arrays[i]? = b.arrays[i]?
theorem OneM.ag {k nv w : Nat} {a b : Mm} (h : OneM k nv a b) (hk : k < w) : AgD k nv (startD w).sets a b :=
  ⟨h.lv, h.la, fun i hi hb => h.val i hi (bt_start hk hb), fun i hb => h.arr i (bt_start hk hb)⟩
/-- Runs of a valid program from memories that differ in one cell. -/
theorem dep_run {k w : Nat} {p : Pg} {a b : Mm} (hw : p.vars.length + p.arrays.length = w) (hw14 : w ≤ 14) (hok : progOK p = true) (hk : k < w) (h : OneM k p.vars.length a b) :
    AgD k p.vars.length (depP p).sets (runL 5 a p.body).1 (runL 5 b p.body).1 ∧ ((depP p).tr.testBit k = false → (runL 5 a p.body).2 = (runL 5 b p.body).2) := by
  have h0 := Nat.two_pow_pos w
  have hbo := (body_of hok).1
  subst hw
  have key : ∀ (l : List St1), (∀ x ∈ l, stmtOK p 5 x = true) → ∀ (s : Dp) (m m' : Mm), Okd (p.vars.length + p.arrays.length) s → AgD k p.vars.length s.sets m m' →
      AgD k p.vars.length (l.foldl (depS p.vars.length 5 0) s).sets (foldR (runS 5) m l).1 (foldR (runS 5) m' l).1 ∧ ((l.foldl (depS p.vars.length 5 0) s).tr.testBit k = false → (foldR (runS 5) m l).2 = (foldR (runS 5) m' l).2) := by
    intro l hl s m m' hs ha
    have h3 : ∀ x ∈ l, ∀ s m m', Okd (p.vars.length + p.arrays.length) s → AgD k p.vars.length s.sets m m' → AgD k p.vars.length (depS p.vars.length 5 0 s x).sets (runS 5 m x).1 (runS 5 m' x).1 ∧ ((depS p.vars.length 5 0 s x).tr.testBit k = false → (runS 5 m x).2 = (runS 5 m' x).2) :=
      fun x hx s m m' hs ha => dep_two rfl 5 0 s x m m' h0 (by simp) hs (hl x hx) ha
    exact agree_list l s m m' hs (fun x _ s hs => dep_ok 5 0 s x h0 hs) (fun x _ s hs => dep_le 5 0 s x h0 hs) h3 ha
  exact key p.body hbo (startD _) a b (CtD.start_ok hw14) (h.ag hk)
/-- What is released is in the trace. -/
theorem dep_rel {w : Nat} {p : Pg} (hw : p.vars.length + p.arrays.length = w) (hw14 : w ≤ 14) : RT (depP p) := by
  subst hw
  exact (fold_inv (Q := fun s => Okd (p.vars.length + p.arrays.length) s ∧ RT s) p.body (startD _) ⟨CtD.start_ok hw14, fun k h => by simp [startD] at h⟩
    fun x _ s hs => ⟨dep_ok 5 0 s x (Nat.two_pow_pos _) hs.1, dep_rt 5 0 s x (Nat.two_pow_pos _) hs.1 hs.2⟩).2
end Go.Proofs.Ytmagbjbanpgmhaa.CtR

namespace Go.Proofs.Ytmagbjbanpgmhaa.CtD
open Go Go.CT CtF CtR

/-- An owned memory handed back as plain data, third of four results. -/
theorem RetOb.memT {R : D → List (Option (List C)) → Prop} {m : Mm} {hp : Hp} {k0 k1 k2 k3 nv na : Nat} {pc ac : List C} {x : Int} (hna : m.arrays.length ≤ 2) (hR : R (.tup [.agg pc, .agg ac, .agg m.cells, DI .i64 x]) []) (hpc : ∀ c ∈ pc, kf c = true) (hac : ∀ c ∈ ac, kf c = true)
    (h0 : hp k0 = some (some (m.vals.map I64))) (h1 : hp k1 = some (some (hdA k2 k3 m.arrays))) (h2 : hp k2 = some (some (blk0 m.arrays))) (h3 : hp k3 = some (some (blk1 m.arrays))) (hv : nv = m.vals.length) (hn : na = m.arrays.length)
    (hne : k0 ≠ k1 ∧ k0 ≠ k2 ∧ k0 ≠ k3 ∧ k1 ≠ k2 ∧ k1 ≠ k3 ∧ k2 ≠ k3) : RetOb 0 R (.tup [.agg pc, .agg ac, .agg [.msl k0 1 0 nv, .msl k1 1 0 na], DI .i64 x]) hp := by
  subst hv hn
  obtain ⟨va, arr⟩ := m
  obtain ⟨n01, n02, n03, n12, n13, n23⟩ := hne
  have e4 : ∀ {hT hS : Hp} {r : Nat → Option Nat} {fz : List Nat}, CMs hT r hS fz pc pc = True := eq_true (CMs.kf hpc)
  have e5 : ∀ {hT hS : Hp} {r : Nat → Option Nat} {fz : List Nat}, CMs hT r hS fz ac ac = True := eq_true (CMs.kf hac)
  refine RetOb.step (fun j => if j = 1 then some k0 else if j = 2 then some k1 else none) [k2, k3] (.tup [.agg pc, .agg ac, .agg [.msl 1 1 0 va.length, .msl 2 1 0 arr.length], DI .i64 x]) [(1, some (va.map I64)), (2, some (arr.map isI))] ?_ ?_
  · have e3 : ∀ a : List Int, (a.map fun n => [C.v (.int .i64 n)]).flatten = a.map I64 := fun a => flat1 _ a
    match arr, hna, h1, h2, h3 with
    | [], _, h1, h2, h3 => simp [DM, DMs, CM, CMs, HpOK, LowOK, hOf, upd, h0, CMs_I, e4, e5, h1, hdA, n01, n02, n03, n12, n13, n23, Ne.symm n01, Ne.symm n23]
    | [a], _, h1, h2, h3 =>
      simp [DM, DMs, CM, CMs, HpOK, LowOK, hOf, upd, h0, CMs_I, e4, e5, h1, h2, hdA, n01, n02, n03, n12, n13, n23, Ne.symm n01, Ne.symm n23, e3, isI, blk0, kf]
    | [a, b], _, h1, h2, h3 =>
      simp [DM, DMs, CM, CMs, HpOK, LowOK, hOf, upd, h0, CMs_I, e4, e5, h1, h2, h3, hdA, n01, n02, n03, n12, n13, n23, Ne.symm n01, Ne.symm n23, e3, isI, blk0, blk1, kf]
  · refine RetOb.ofQ (fun j => none) [1, 2] _ [] ?_ hR (by simp)
    simp [enumL, DM, DMs, CM, CMs, HpOK, LowOK, hOf, upd, Mm.cells, isI, flat_I, kf, e4, e5]
    exact (flat1 isI arr).symm
theorem fitsV {p : Pg} {va : List Int} {arr : List (List Int)} (h : MemFits p ⟨va, arr⟩) (k : Nat) {v : Int} (hv : 0 ≤ v ∧ v ≤ 255) : MemFits p ⟨va.set k v, arr⟩ :=
  ⟨by have := h.nv; simpa using this, h.na, h.nv12, h.na2, fun x hx => by
    rcases List.mem_or_eq_of_mem_set hx with h1 | rfl
    · exact h.val x h1
    · exact hv, h.arr⟩
theorem four_set {a : List Int} (h : a.length = 4 ∧ ∀ x ∈ a, 0 ≤ x ∧ x ≤ 255) (q : Nat) {v : Int} (hv : 0 ≤ v ∧ v ≤ 255) : (a.set q v).length = 4 ∧ ∀ x ∈ a.set q v, 0 ≤ x ∧ x ≤ 255 :=
  ⟨by simp [h.1], fun x hx => by
    rcases List.mem_or_eq_of_mem_set hx with h1 | rfl
    · exact h.2 x h1
    · exact hv⟩
def oneR (r : D) (h : List (Option (List C))) : Prop := ∃ (p : Pg) (a b : Mm) (k : Nat), r = .tup [.agg p.cells, .agg a.cells, .agg b.cells, DI .i64 k] ∧ DrP p ∧ MemFits p a ∧ MemFits p b ∧ k < p.vars.length + p.arrays.length ∧ OneM k p.vars.length a b ∧ h = []
theorem drawOneInput (bs : List Int) (hb : Fits .u8 bs) (hl : bs.length ≤ mx) : DC Try.prog 14 [bytesD bs] [] oneR := by
  have hmx := mx_eq
  have hop := l17Open bs hl
  have hb' := fits_take hb 2000
  have hl' : (bs.take 2000).length ≤ 2000 := by rw [List.length_take]; omega
  generalize hR : oneR = R
  generalize hbs : bs.take 2000 = b2 at *
  unfold bytesD
  unfold bytesD at hop
  refine dcZ Try.func14 ?_
  simp (maxSteps := 9999999) only [go_sem]
  ((try (refine drvZ Try.func14 ?_; simp (maxSteps := 9999999) only [go_sem])); (try ((with_reducible refine And.intro ?_ ?_) <;> (repeat' with_reducible apply And.intro) <;> try exact sd)))
  refine XK.callG [] hop ok41 (fun i' x h => by simp at h) (hbT ()) (fun d h' ⟨_, e⟩ => by subst e; simp) ?_
  rintro _ _ ⟨rfl, rfl⟩ _
  iterate 2 ((try (refine drvZ Try.func14 ?_; simp (maxSteps := 9999999) only [go_sem, renCs_rdr])); (try ((with_reducible refine And.intro ?_ ?_) <;> (repeat' with_reducible apply And.intro) <;> try exact sd)))
  have hpr := l2Program b2 0 hb' hl' (by omega)
  refine XK.callG [320] hpr ok42 (hhp_one (by simp [upd, renCs_rdr])) (hbT ()) (fun d h' ⟨_, _, _, _, _, _, e⟩ => by subst e; simp) ?_
  rintro _ _ ⟨p, rfl, hp, n1, hn1, hn2, rfl⟩ _
  have hln := prog_len hp.ok
  have hme := l3Memory b2 n1 p hb' hl' (by omega) ⟨hln.1, hln.2.1⟩ hln.2.2
  have hce := cellsS p (by omega) (by omega)
  generalize hw : p.vars.length + p.arrays.length = w at *
  obtain ⟨vs, ar, bd⟩ := p
  have hw : vs.length + ar.length = w := hw
  simp only at hln
  iterate 2 ((try (refine drvZ Try.func14 ?_; simp (maxSteps := 9999999) only [go_sem, renCs_rdr])); (try ((with_reducible refine And.intro ?_ ?_) <;> (repeat' with_reducible apply And.intro) <;> try exact sd)))
  refine XK.callG [320] hme ok43 (hhp_one (by simp [upd, renCs_rdr])) (hbT ()) (fun d h' ⟨_, _, _, _, _, _, e⟩ => by subst e; simp) ?_
  rintro _ _ ⟨m, rfl, hm, n2, hn3, hn4, rfl⟩ _
  have hcp := l3Copy m (by have := hm.nv; have := hm.nv12; omega) (by have := hm.na; have := hm.na2; omega) (fun a h => (hm.arr a h).1)
  unfold memB at hcp
  have hmv := hm.nv
  have hma := hm.na
  have hma2 := hm.na2
  have h4 := fun a h => (hm.arr a h).1
  obtain ⟨va, arr⟩ := m
  simp only at hmv hma hma2 h4
  iterate 2 ((try (refine drvZ Try.func14 ?_; simp (maxSteps := 9999999) only [go_sem, Mm.cells, renCs_rdr])); (try ((with_reducible refine And.intro ?_ ?_) <;> (repeat' with_reducible apply And.intro) <;> try exact sd)))
  refine XK.callG [] hcp ok44 (fun i' x h => by simp at h) (hbT ()) (fun d h' ⟨_, e⟩ => by subst e; simp) ?_
  rintro _ _ ⟨rfl, rfl⟩ _
  have hpk := pick b2 n2 (w : Int) hb' hl' (by omega) (by simp only [InK]; omega)
  iterate 3 ((try (refine drvZ Try.func14 ?_; simp (maxSteps := 9999999) only [go_sem, Mm.cells, renCs_I, renCs_hdr, renCs_b0, renCs_b1, renCs_rdr])); (try ((with_reducible refine And.intro ?_ ?_) <;> (repeat' with_reducible apply And.intro) <;> try exact sd)); (try first | refine XK.p hce ok38 ?_ | refine XK.gp hce ok38 ?_))
  refine XK.callG [320] hpk ok45 (hhp_one (by simp [upd, renCs_rdr])) (hbT ()) (fun d h' ⟨v, _, _, e⟩ => by subst e; simp) ?_
  rintro _ _ ⟨v, rfl, hpv, rfl⟩ _
  obtain ⟨k, rfl⟩ : ∃ k : Nat, v = (k : Int) := ⟨v.toNat, by omega⟩
  have hk : k < w := by omega
  by_cases hkv : k < vs.length
  · have hkva : k < va.length := by omega
    have harr : arr.length ≤ 2 := by omega
    iterate 3 ((try (refine drvZ Try.func14 ?_; simp (maxSteps := 9999999) only [go_sem, Mm.cells, renCs_I, renCs_hdr, renCs_b0, renCs_b1, renCs_rdr, hkv])); (try ((with_reducible refine And.intro ?_ ?_) <;> (repeat' with_reducible apply And.intro) <;> try exact sd)))
    refine XK.callG [320] (l3Value b2 (n2 + 1) hb' hl' (by omega)) ok46 (hhp_one (by simp [upd, renCs_rdr])) (hbT ()) (fun d h' ⟨_, _, _, _, _, _, e⟩ => by subst e; simp) ?_ (fun _ => ⟨by kernel_rfl, _, _, ⟨0, rfl, by omega, n2 + 1, by omega, by omega, rfl⟩, by simp⟩)
    rintro _ _ ⟨v, rfl, hv, n3, hn5, hn6, rfl⟩ _
    iterate 4 ((try (refine drvZ Try.func14 ?_; simp (maxSteps := 9999999) only [go_sem, Mm.cells, renCs_I, renCs_hdr, renCs_b0, renCs_b1, renCs_rdr, hkv, hkva])); (try ((with_reducible refine And.intro ?_ ?_) <;> (repeat' with_reducible apply And.intro) <;> try exact sd)))
    refine RetOb.memT (m := ⟨va.set k v, arr⟩) (k2 := 1090) (k3 := 1091) harr (by
      rw [← hR]
      exact ⟨⟨vs, ar, bd⟩, ⟨va, arr⟩, ⟨va.set k v, arr⟩, k, rfl, hp, hm, fitsV hm k hv, by simp only; omega, ⟨by simp, rfl, fun i _ hne => by simp only; rw [List.getElem?_set_ne (fun e => hne e.symm)], fun _ _ => rfl⟩, rfl⟩)
      (by simp [kf]) (by simp [kf]) ?_ ?_ ?_ ?_ (by simp) rfl (by decide)
    · simp [upd]
    · rw [← hdr_hdA _ _ _ harr h4]; simp [upd]
    · simp [upd]
    · simp [upd]
  · match arr, hma, hma2, h4, hm with
    | [], hma, hma2, h4, hm => simp at hma; omega
    | [a], hma, hma2, h4, hm =>
      simp only [List.length_cons, List.length_nil] at hma
      have hj : k = vs.length := by omega
      · have hks : ((k : Int) - (vs.length : Int)) = 0 := by omega
        have hh : hdr 1090 1091 1 = [.msl 1090 1 0 4] := rfl
        have hb0 : blk0 [a] = a.map I64 := rfl
        have hb1 : blk1 [a] = [] := rfl
        have h4a := h4 a (by simp)
        iterate 3 ((try (refine drvZ Try.func14 ?_; simp (maxSteps := 9999999) only [go_sem, Mm.cells, renCs_I, renCs_hdr, renCs_b0, renCs_b1, renCs_rdr, hkv, hks, hh, hb0, hb1])); (try ((with_reducible refine And.intro ?_ ?_) <;> (repeat' with_reducible apply And.intro) <;> try exact sd)))
        refine XK.callG [320] (pick b2 (n2 + 1) 4 hb' hl' (by omega) (by simp only [InK]; omega)) ok45 (hhp_one (by simp [upd, renCs_rdr])) (hbT ()) (fun d h' ⟨v, _, _, e⟩ => by subst e; simp) ?_ (fun _ => ⟨by kernel_rfl, _, _, ⟨0, rfl, by omega, rfl⟩, by simp⟩)
        rintro _ _ ⟨u, rfl, hu, rfl⟩ _
        obtain ⟨q, rfl⟩ : ∃ q : Nat, u = (q : Int) := ⟨u.toNat, by omega⟩
        have hq : q < a.length := by omega
        iterate 2 ((try (refine drvZ Try.func14 ?_; simp (maxSteps := 9999999) only [go_sem, Mm.cells, renCs_I, renCs_hdr, renCs_b0, renCs_b1, renCs_rdr, hkv, hks, hh, hb0, hb1])); (try ((with_reducible refine And.intro ?_ ?_) <;> (repeat' with_reducible apply And.intro) <;> try exact sd)))
        refine XK.callG [320] (l3Value b2 (n2 + 1 + 1) hb' hl' (by omega)) ok46 (hhp_one (by simp [upd, renCs_rdr])) (hbT ()) (fun d h' ⟨_, _, _, _, _, _, e⟩ => by subst e; simp) ?_ (fun _ => ⟨by kernel_rfl, _, _, ⟨0, rfl, by omega, n2 + 1 + 1, by omega, by omega, rfl⟩, by simp⟩)
        rintro _ _ ⟨v, rfl, hv, n3, hn5, hn6, rfl⟩ _
        iterate 4 ((try (refine drvZ Try.func14 ?_; simp (maxSteps := 9999999) only [go_sem, Mm.cells, renCs_I, renCs_hdr, renCs_b0, renCs_b1, renCs_rdr, hkv, hks, hh, hb0, hb1, hq, h4a])); (try ((with_reducible refine And.intro ?_ ?_) <;> (repeat' with_reducible apply And.intro) <;> try exact sd)))
        refine RetOb.memT (m := ⟨va, [a.set q v]⟩) (k2 := 1090) (k3 := 1091) (by simp) (by
          rw [← hR]
          refine ⟨⟨vs, ar, bd⟩, ⟨va, [a]⟩, ⟨va, [a.set q v]⟩, k, rfl, hp, hm, ⟨hm.nv, by have := hm.na; simpa using this, hm.nv12, hm.na2, hm.val, ?_⟩, by simp only; omega, ⟨rfl, by simp, fun _ _ _ => rfl, fun i hne => ?_⟩, rfl⟩
          · exact fun x hx => by
              simp only [List.mem_cons, List.mem_singleton, List.not_mem_nil, or_false] at hx
              subst hx; exact four_set (hm.arr a (by simp)) q hv
          · simp only at hne ⊢
            match i, hne with
            | 0, hne => omega
            | i + 1, _ => simp)
          (by simp [kf]) (by simp [kf]) ?_ ?_ ?_ ?_ (by simp) rfl (by decide)
        · simp [upd]
        · simp [upd, hdA, h4 a (by simp)]
        · simp [upd, blk0]
        · simp [upd, blk1]
    | [a, b], hma, hma2, h4, hm =>
      simp only [List.length_cons, List.length_nil] at hma
      have hj : k = vs.length ∨ k = vs.length + 1 := by omega
      rcases hj with hj | hj
      · have hks : ((k : Int) - (vs.length : Int)) = 0 := by omega
        have hh : hdr 1090 1091 2 = [.msl 1090 1 0 4, .msl 1091 1 0 4] := rfl
        have hb0 : blk0 [a, b] = a.map I64 := rfl
        have hb1 : blk1 [a, b] = b.map I64 := rfl
        have h4a := h4 a (by simp)
        iterate 3 ((try (refine drvZ Try.func14 ?_; simp (maxSteps := 9999999) only [go_sem, Mm.cells, renCs_I, renCs_hdr, renCs_b0, renCs_b1, renCs_rdr, hkv, hks, hh, hb0, hb1])); (try ((with_reducible refine And.intro ?_ ?_) <;> (repeat' with_reducible apply And.intro) <;> try exact sd)))
        refine XK.callG [320] (pick b2 (n2 + 1) 4 hb' hl' (by omega) (by simp only [InK]; omega)) ok45 (hhp_one (by simp [upd, renCs_rdr])) (hbT ()) (fun d h' ⟨v, _, _, e⟩ => by subst e; simp) ?_ (fun _ => ⟨by kernel_rfl, _, _, ⟨0, rfl, by omega, rfl⟩, by simp⟩)
        rintro _ _ ⟨u, rfl, hu, rfl⟩ _
        obtain ⟨q, rfl⟩ : ∃ q : Nat, u = (q : Int) := ⟨u.toNat, by omega⟩
        have hq : q < a.length := by omega
        iterate 2 ((try (refine drvZ Try.func14 ?_; simp (maxSteps := 9999999) only [go_sem, Mm.cells, renCs_I, renCs_hdr, renCs_b0, renCs_b1, renCs_rdr, hkv, hks, hh, hb0, hb1])); (try ((with_reducible refine And.intro ?_ ?_) <;> (repeat' with_reducible apply And.intro) <;> try exact sd)))
        refine XK.callG [320] (l3Value b2 (n2 + 1 + 1) hb' hl' (by omega)) ok46 (hhp_one (by simp [upd, renCs_rdr])) (hbT ()) (fun d h' ⟨_, _, _, _, _, _, e⟩ => by subst e; simp) ?_ (fun _ => ⟨by kernel_rfl, _, _, ⟨0, rfl, by omega, n2 + 1 + 1, by omega, by omega, rfl⟩, by simp⟩)
        rintro _ _ ⟨v, rfl, hv, n3, hn5, hn6, rfl⟩ _
        iterate 4 ((try (refine drvZ Try.func14 ?_; simp (maxSteps := 9999999) only [go_sem, Mm.cells, renCs_I, renCs_hdr, renCs_b0, renCs_b1, renCs_rdr, hkv, hks, hh, hb0, hb1, hq, h4a])); (try ((with_reducible refine And.intro ?_ ?_) <;> (repeat' with_reducible apply And.intro) <;> try exact sd)))
        refine RetOb.memT (m := ⟨va, [a.set q v, b]⟩) (k2 := 1090) (k3 := 1091) (by simp) (by
          rw [← hR]
          refine ⟨⟨vs, ar, bd⟩, ⟨va, [a, b]⟩, ⟨va, [a.set q v, b]⟩, k, rfl, hp, hm, ⟨hm.nv, by have := hm.na; simpa using this, hm.nv12, hm.na2, hm.val, ?_⟩, by simp only; omega, ⟨rfl, by simp, fun _ _ _ => rfl, fun i hne => ?_⟩, rfl⟩
          · exact fun x hx => by
              simp only [List.mem_cons, List.mem_singleton, List.not_mem_nil, or_false] at hx
              rcases hx with rfl | rfl
              · exact four_set (hm.arr a (by simp)) q hv
              · exact hm.arr _ (by simp)
          · simp only at hne ⊢
            match i, hne with
            | 0, hne => omega
            | i + 1, _ => simp)
          (by simp [kf]) (by simp [kf]) ?_ ?_ ?_ ?_ (by simp) rfl (by decide)
        · simp [upd]
        · simp [upd, hdA, h4 a (by simp), h4 b (by simp)]
        · simp [upd, blk0]
        · simp [upd, blk1]
      · have hks : ((k : Int) - (vs.length : Int)) = 1 := by omega
        have hh : hdr 1090 1091 2 = [.msl 1090 1 0 4, .msl 1091 1 0 4] := rfl
        have hb0 : blk0 [a, b] = a.map I64 := rfl
        have hb1 : blk1 [a, b] = b.map I64 := rfl
        have h4a := h4 b (by simp)
        iterate 3 ((try (refine drvZ Try.func14 ?_; simp (maxSteps := 9999999) only [go_sem, Mm.cells, renCs_I, renCs_hdr, renCs_b0, renCs_b1, renCs_rdr, hkv, hks, hh, hb0, hb1])); (try ((with_reducible refine And.intro ?_ ?_) <;> (repeat' with_reducible apply And.intro) <;> try exact sd)))
        refine XK.callG [320] (pick b2 (n2 + 1) 4 hb' hl' (by omega) (by simp only [InK]; omega)) ok45 (hhp_one (by simp [upd, renCs_rdr])) (hbT ()) (fun d h' ⟨v, _, _, e⟩ => by subst e; simp) ?_ (fun _ => ⟨by kernel_rfl, _, _, ⟨0, rfl, by omega, rfl⟩, by simp⟩)
        rintro _ _ ⟨u, rfl, hu, rfl⟩ _
        obtain ⟨q, rfl⟩ : ∃ q : Nat, u = (q : Int) := ⟨u.toNat, by omega⟩
        have hq : q < b.length := by omega
        iterate 2 ((try (refine drvZ Try.func14 ?_; simp (maxSteps := 9999999) only [go_sem, Mm.cells, renCs_I, renCs_hdr, renCs_b0, renCs_b1, renCs_rdr, hkv, hks, hh, hb0, hb1])); (try ((with_reducible refine And.intro ?_ ?_) <;> (repeat' with_reducible apply And.intro) <;> try exact sd)))
        refine XK.callG [320] (l3Value b2 (n2 + 1 + 1) hb' hl' (by omega)) ok46 (hhp_one (by simp [upd, renCs_rdr])) (hbT ()) (fun d h' ⟨_, _, _, _, _, _, e⟩ => by subst e; simp) ?_ (fun _ => ⟨by kernel_rfl, _, _, ⟨0, rfl, by omega, n2 + 1 + 1, by omega, by omega, rfl⟩, by simp⟩)
        rintro _ _ ⟨v, rfl, hv, n3, hn5, hn6, rfl⟩ _
        iterate 4 ((try (refine drvZ Try.func14 ?_; simp (maxSteps := 9999999) only [go_sem, Mm.cells, renCs_I, renCs_hdr, renCs_b0, renCs_b1, renCs_rdr, hkv, hks, hh, hb0, hb1, hq, h4a])); (try ((with_reducible refine And.intro ?_ ?_) <;> (repeat' with_reducible apply And.intro) <;> try exact sd)))
        refine RetOb.memT (m := ⟨va, [a, b.set q v]⟩) (k2 := 1090) (k3 := 1091) (by simp) (by
          rw [← hR]
          refine ⟨⟨vs, ar, bd⟩, ⟨va, [a, b]⟩, ⟨va, [a, b.set q v]⟩, k, rfl, hp, hm, ⟨hm.nv, by have := hm.na; simpa using this, hm.nv12, hm.na2, hm.val, ?_⟩, by simp only; omega, ⟨rfl, by simp, fun _ _ _ => rfl, fun i hne => ?_⟩, rfl⟩
          · exact fun x hx => by
              simp only [List.mem_cons, List.mem_singleton, List.not_mem_nil, or_false] at hx
              rcases hx with rfl | rfl
              · exact hm.arr _ (by simp)
              · exact four_set (hm.arr b (by simp)) q hv
          · simp only at hne ⊢
            match i, hne with
            | 0, _ => simp
            | 1, hne => omega
            | i + 2, _ => simp)
          (by simp [kf]) (by simp [kf]) ?_ ?_ ?_ ?_ (by simp) rfl (by decide)
        · simp [upd]
        · simp [upd, hdA, h4 a (by simp), h4 b (by simp)]
        · simp [upd, blk0]
        · simp [upd, blk1]
    | _ :: _ :: _ :: _, hma, _, _, _ => simp at hma; omega
end Go.Proofs.Ytmagbjbanpgmhaa.CtD

namespace Go.Proofs.Ytmagbjbanpgmhaa.CtD
set_option pp.maxSteps 300000
set_option pp.deepTerms true
open Go Go.CT CtF CtR

theorem ctBoolsR (bs : List Bool) (hl : bs.length ≤ mx) : DC Try.prog 16 [.c (boolsD bs), .c (boolsD bs)] [] (fun r h => r = DB true ∧ h = []) := by
  have hmx := mx_eq
  have ret : ∀ (hp : Hp), RetOb 0 (fun r h => r = DB true ∧ h = []) (DB true) hp := fun hp => RetOb.plain (d := DB _) ⟨rfl, rfl⟩ rfl
  generalize (fun (r : D) (h : List (Option (List C))) => r = DB true ∧ h = []) = R at *
  have hb : ((bs.length : Int) != bs.length) = false := by simp
  refine dcZ Try.func16 ?_
  simp (maxSteps := 9999999) only [go_sem, boolsD, hb]
  iterate 2 ((try (refine drvZ Try.func16 ?_; simp (maxSteps := 9999999) only [go_sem, boolsD, hb])); (try ((with_reducible refine And.intro ?_ ?_) <;> (repeat' with_reducible apply And.intro) <;> try exact sd)))
  refine Go.loopQ (fun i : Nat => [(0, .c (boolsD bs)), (1, .c (boolsD bs)), (5, DI .i64 i)]) (fun _ => []) 1024 (fun i => i ≤ bs.length) (fun i => bs.length - i) ?_ 0 some [] _ (Nat.zero_le _) ?_
  · intro i hi again
    rcases Nat.lt_or_ge i bs.length with hlt | hge
    · obtain ⟨x, hx⟩ : ∃ x, bs[i]? = some x := ⟨bs[i], by simp [hlt]⟩
      have hne : (x != x) = false := by simp
      refine drvL Try.func16 ?_
      simp (maxSteps := 9999999) only [go_sem, boolsD, hx, hlt, hne, bne_self_eq_false]
      iterate 3 ((try (refine drvZ Try.func16 ?_; simp (maxSteps := 9999999) only [go_sem, boolsD, hx, hlt, hne, bne_self_eq_false])); (try ((with_reducible refine And.intro ?_ ?_) <;> (repeat' with_reducible apply And.intro) <;> try exact sd)))
      refine again (i + 1) some [] _ hlt (by omega) ?_
      simp (maxSteps := 9999999) only [go_sem, TmOK, DM, DMs, CM, CMs, forall_eq, exists_eq_left, Mq, HpOK, LowOK, boolsD]
      try simp
    · have hn : ¬ i < bs.length := by omega
      refine drvL Try.func16 ?_
      simp (maxSteps := 9999999) only [go_sem, boolsD, hn]
      iterate 3 ((try (refine drvZ Try.func16 ?_; simp (maxSteps := 9999999) only [go_sem, boolsD, hn])); (try ((with_reducible refine And.intro ?_ ?_) <;> (repeat' with_reducible apply And.intro) <;> try exact sd)))
      exact ret _
  · simp (maxSteps := 9999999) only [go_sem, TmOK, DM, DMs, CM, CMs, forall_eq, exists_eq_left, Mq, HpOK, LowOK, boolsD]
    try simp
theorem ctRowsR (w : Nat) (S : List Nat) (hw : w ≤ 14) (hl : S.length ≤ mx) : DC Try.prog 11 [.c (rowsD w S), .c (rowsD w S)] [] (fun r h => r = DB true ∧ h = []) := by
  have hmx := mx_eq
  have ret : ∀ (hp : Hp), RetOb 0 (fun r h => r = DB true ∧ h = []) (DB true) hp := fun hp => RetOb.plain (d := DB _) ⟨rfl, rfl⟩ rfl
  have hcb := fun N => ctBoolsR (bl w N) (by rw [bl_len]; omega)
  generalize (fun (r : D) (h : List (Option (List C))) => r = DB true ∧ h = []) = R at ret ⊢
  have hb : ((S.length : Int) != S.length) = false := by simp
  refine dcZ Try.func11 ?_
  simp (maxSteps := 9999999) only [go_sem, rowsD, hb]
  iterate 2 ((try (refine drvZ Try.func11 ?_; simp (maxSteps := 9999999) only [go_sem, rowsD, hb])); (try ((with_reducible refine And.intro ?_ ?_) <;> (repeat' with_reducible apply And.intro) <;> try exact sd)))
  refine Go.loopQ (fun i : Nat => [(0, .c (rowsD w S)), (1, .c (rowsD w S)), (5, DI .i64 i)]) (fun _ => []) 1024 (fun i => i ≤ S.length) (fun i => S.length - i) ?_ 0 some [] _ (Nat.zero_le _) ?_
  · intro i hi again
    rcases Nat.lt_or_ge i S.length with hlt | hge
    · have hx := rows_at (w := w) hlt
      have hcb := hcb (dat S i)
      generalize dat S i = q at *
      refine drvL Try.func11 ?_
      simp (maxSteps := 9999999) only [go_sem, rowsD, hx, hlt]
      iterate 4 ((try (refine drvZ Try.func11 ?_; simp (maxSteps := 9999999) only [go_sem, rowsD, hx, hlt])); (try ((with_reducible refine And.intro ?_ ?_) <;> (repeat' with_reducible apply And.intro) <;> try exact sd)); (try first | refine XK.p hcb ok16 ?_ | refine XK.gp hcb ok16 ?_))
      refine again (i + 1) some [] _ hlt (by omega) ?_
      simp (maxSteps := 9999999) only [go_sem, TmOK, DM, DMs, CM, CMs, forall_eq, exists_eq_left, Mq, HpOK, LowOK, rowsD]
      try simp
    · have hn : ¬ i < S.length := by omega
      refine drvL Try.func11 ?_
      simp (maxSteps := 9999999) only [go_sem, rowsD, hn]
      iterate 3 ((try (refine drvZ Try.func11 ?_; simp (maxSteps := 9999999) only [go_sem, rowsD, hn])); (try ((with_reducible refine And.intro ?_ ?_) <;> (repeat' with_reducible apply And.intro) <;> try exact sd)))
      exact ret _
  · simp (maxSteps := 9999999) only [go_sem, TmOK, DM, DMs, CM, CMs, forall_eq, exists_eq_left, Mq, HpOK, LowOK, rowsD]
    try simp
end Go.Proofs.Ytmagbjbanpgmhaa.CtD
