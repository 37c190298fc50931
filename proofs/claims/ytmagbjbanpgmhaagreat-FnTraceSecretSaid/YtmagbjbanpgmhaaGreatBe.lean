/- Contracts of functions of the program, one behind the other, as plain data: what each call returns and which blocks it leaves. -/
import Derived.Test.YtmagbjbanpgmhaaGreatFacts
import Derived.Test.YtmagbjbanpgmhaaGreatAj
import Derived.Test.YtmagbjbanpgmhaaGreatAk
import Derived.Test.YtmagbjbanpgmhaaGreatAm
import Derived.Test.YtmagbjbanpgmhaaGreatAn
import Derived.Test.YtmagbjbanpgmhaaGreatAq
import Derived.Test.YtmagbjbanpgmhaaGreatAr
import Derived.Test.YtmagbjbanpgmhaaGreatAs
import Derived.Test.YtmagbjbanpgmhaaGreatAl
import Derived.Test.YtmagbjbanpgmhaaGreatAt
import Derived.Test.YtmagbjbanpgmhaaGreatAu
import Derived.Test.YtmagbjbanpgmhaaGreatAv
import Derived.Test.YtmagbjbanpgmhaaGreatAx
import Derived.Test.YtmagbjbanpgmhaaGreatAy
import Derived.Test.YtmagbjbanpgmhaaGreatAz
import Derived.Test.YtmagbjbanpgmhaaGreatBa
import Derived.Test.YtmagbjbanpgmhaaGreatBb
import Derived.Test.YtmagbjbanpgmhaaGreatBd
import Derived.Test.YtmagbjbanpgmhaaGreatAo
import Derived.Test.YtmagbjbanpgmhaaGreatBc
set_option linter.unusedVariables false
set_option linter.unusedSimpArgs false
set_option maxHeartbeats 16000000
set_option maxRecDepth 100000
namespace Go.Proofs.YtmagbjbanpgmhaaGreat.CtD
open Go Go.CT CtF CtR

theorem sownLE (ks : List Ex) (hlk : ks.length ≤ 3) (ih : ∀ e ∈ ks, DC Tryz.prog 158 [.agg e.cells] [] (fun r h => r = .agg e.cells ∧ h = [])) : DC Tryz.prog 166 [.c (.isl 3 (Ex.cellsL ks))] [] (fun r h => r = .c (.isl 3 (Ex.cellsL ks)) ∧ h = []) := by
  have hmx := mx_eq
  refine dcZ Tryz.func166 ?_
  simp (maxSteps := 9999999) only [go_sem]
  iterate 2 ((try (refine drvZ Tryz.func166 ?_; simp (maxSteps := 9999999) only [go_sem])); (try ((with_reducible refine And.intro ?_ ?_) <;> (repeat' with_reducible apply And.intro) <;> try exact sd)))
  refine Go.loopQ (fun i : Nat => [(3, .c (.msl 64 3 0 i)), (7, .c (.isl 3 (Ex.cellsL ks))), (8, DI .i64 ks.length), (9, DI .i64 i)]) (fun i => [(64, some (exC (ks.take i)))])
    4096 (fun i => i ≤ ks.length) (fun i => ks.length - i) ?_ 0 some [] _ (Nat.zero_le _) ?_
  · intro i hi again
    rcases Nat.lt_or_ge i ks.length with hlt | hge
    · obtain ⟨⟨k', v', ks'⟩, hx⟩ : ∃ x, ks[i]? = some x := ⟨ks[i], by simp [hlt]⟩
      have hsx : ks.take (i + 1) = ks.take i ++ [.mk k' v' ks'] := by rw [List.take_add_one, hx]; rfl
      have hel : (exC (ks.take i)).length = i * 3 := by rw [exC_len, List.length_take]; congr 1; omega
      have hih := ih _ (List.mem_of_getElem? hx)
      refine drvL Tryz.func166 ?_
      simp (maxSteps := 9999999) only [go_sem, hx, hlt]
      iterate 6 ((try (refine drvZ Tryz.func166 ?_; simp (maxSteps := 9999999) only [go_sem, hx, hlt])); (try ((with_reducible refine And.intro ?_ ?_) <;> (repeat' with_reducible apply And.intro) <;> try exact sd)); (try first | refine XK.p hih ok158 ?_ | refine XK.gp hih ok158 ?_))
      refine again (i + 1) (fun j => if j = 64 then some 4672 else some j) [] _ hlt (by omega) ?_
      simp (maxSteps := 9999999) only [go_sem, TmOK, DM, DMs, CM, CMs, forall_eq, exists_eq_left, Mq, HpOK, LowOK, hsx, exC_snoc]
      simp
      exact CMs.kf (kf_app (exC_kf _) (by simp [kf]))
    · have hn : ¬ i < ks.length := by omega
      obtain rfl : i = ks.length := by omega
      refine drvL Tryz.func166 ?_
      simp (maxSteps := 9999999) only [go_sem, hn, List.take_length]
      iterate 2 ((try (refine drvZ Tryz.func166 ?_; simp (maxSteps := 9999999) only [go_sem, hn, List.take_length])); (try ((with_reducible refine And.intro ?_ ?_) <;> (repeat' with_reducible apply And.intro) <;> try exact sd)))
      refine RetOb.ofQ (fun j => none) [64] (.c (.isl 3 (Ex.cellsL ks))) [] ?_ ⟨rfl, rfl⟩ (by simp)
      have g1 : (Ex.cellsL ks).flatten = exC ks := by rw [Ex.cellsL_eq]; rfl
      have g2 : ∀ x ∈ Ex.cellsL ks, x.length = 3 := fun x hx => by rw [Ex.cellsL_eq] at hx; obtain ⟨e, _, rfl⟩ := List.mem_map.1 hx; exact Ex.cells_len e
      have g3 : ∀ x ∈ Ex.cellsL ks, ∀ c ∈ x, kf c = true := fun x hx => by rw [Ex.cellsL_eq] at hx; obtain ⟨e, _, rfl⟩ := List.mem_map.1 hx; exact ex_kf e
      simp only [enumL, hOf, DM, DMs, CM, CMs, HpOK, LowOK, upd, Ex.cells, Ex.cellsL_length, g1]
      first | (simp; exact ⟨g2, g3⟩) | (simp [g2]; exact g3) | exact ⟨g2, g3⟩
  · simp (maxSteps := 9999999) only [go_sem, TmOK, DM, DMs, CM, CMs, forall_eq, exists_eq_left, Mq, HpOK, LowOK]
    simp [exC, CMs]
theorem sownE (e : Ex) (he : SmE e) : DC Tryz.prog 158 [.agg e.cells] [] (fun r h => r = .agg e.cells ∧ h = []) := by
  have hmx := mx_eq
  induction he with
  | mk k v ks hlen hall ih =>
    have ih := sownLE ks hlen ih
    refine dcZ Tryz.func158 ?_
    simp (maxSteps := 9999999) only [go_sem]
    iterate 4 ((try (refine drvZ Tryz.func158 ?_; simp (maxSteps := 9999999) only [go_sem])); (try ((with_reducible refine And.intro ?_ ?_) <;> (repeat' with_reducible apply And.intro) <;> try exact sd)); (try first | refine XK.p ih ok166 ?_ | refine XK.gp ih ok166 ?_))
    exact RetOb.plain ⟨rfl, rfl⟩ (by simp [kD, kf])
theorem sownSO (k t : Int) (ix v : Ex) (c : Int) (b e : List St1) (h1 : SmE ix) (h2 : SmE v) (hb : DC Tryz.prog 109 [.c (.isl 11 (St1.cellsL b))] [] (fun r h => r = .c (.isl 11 (St1.cellsL b)) ∧ h = []))
    (he : DC Tryz.prog 109 [.c (.isl 11 (St1.cellsL e))] [] (fun r h => r = .c (.isl 11 (St1.cellsL e)) ∧ h = [])) : DC Tryz.prog 136 [.agg (St1.cells (.mk k t ix v c b e))] [] (fun r h => r = .agg (St1.cells (.mk k t ix v c b e)) ∧ h = []) := by
  have hmx := mx_eq
  obtain ⟨ik, iv, iks⟩ := ix
  obtain ⟨vk, vv, vks⟩ := v
  have hi := sownE _ h1
  have hv := sownE _ h2
  simp only [Ex.cells] at hi hv
  refine dcZ Tryz.func136 ?_
  simp (maxSteps := 9999999) only [go_sem]
  iterate 8 ((try (refine drvZ Tryz.func136 ?_; simp (maxSteps := 9999999) only [go_sem])); (try ((with_reducible refine And.intro ?_ ?_) <;> (repeat' with_reducible apply And.intro) <;> try exact sd)); (try first | refine XK.p hi ok158 ?_ | refine XK.gp hi ok158 ?_ | refine XK.p hv ok158 ?_ | refine XK.gp hv ok158 ?_ | refine XK.p hb ok109 ?_ | refine XK.gp hb ok109 ?_ | refine XK.p he ok109 ?_ | refine XK.gp he ok109 ?_))
  exact RetOb.plain ⟨rfl, rfl⟩ (by simp [kD, kf])
theorem sownLS (l : List St1) (hl : l.length ≤ 1000000) (ih : ∀ s ∈ l, DC Tryz.prog 136 [.agg s.cells] [] (fun r h => r = .agg s.cells ∧ h = [])) : DC Tryz.prog 109 [.c (.isl 11 (St1.cellsL l))] [] (fun r h => r = .c (.isl 11 (St1.cellsL l)) ∧ h = []) := by
  have hmx := mx_eq
  refine dcZ Tryz.func109 ?_
  simp (maxSteps := 9999999) only [go_sem]
  iterate 2 ((try (refine drvZ Tryz.func109 ?_; simp (maxSteps := 9999999) only [go_sem])); (try ((with_reducible refine And.intro ?_ ?_) <;> (repeat' with_reducible apply And.intro) <;> try exact sd)))
  refine Go.loopQ (fun i : Nat => [(3, .c (.msl 64 11 0 i)), (7, .c (.isl 11 (St1.cellsL l))), (8, DI .i64 l.length), (9, DI .i64 i)]) (fun i => [(64, some (stC (l.take i)))])
    4096 (fun i => i ≤ l.length) (fun i => l.length - i) ?_ 0 some [] _ (Nat.zero_le _) ?_
  · intro i hi again
    rcases Nat.lt_or_ge i l.length with hlt | hge
    · obtain ⟨⟨k, t, ⟨ik, iv, iks⟩, ⟨vk, vv, vks⟩, c, b, e⟩, hx⟩ : ∃ x, l[i]? = some x := ⟨l[i], by simp [hlt]⟩
      have hsx : l.take (i + 1) = l.take i ++ [.mk k t (.mk ik iv iks) (.mk vk vv vks) c b e] := by rw [List.take_add_one, hx]; rfl
      have hel : (stC (l.take i)).length = i * 11 := by rw [stC_len, List.length_take]; congr 1; omega
      have hih := ih _ (List.mem_of_getElem? hx)
      simp only [St1.cells, Ex.cells, List.cons_append, List.nil_append] at hih
      refine drvL Tryz.func109 ?_
      simp (maxSteps := 9999999) only [go_sem, hx, hlt]
      iterate 6 ((try (refine drvZ Tryz.func109 ?_; simp (maxSteps := 9999999) only [go_sem, hx, hlt])); (try ((with_reducible refine And.intro ?_ ?_) <;> (repeat' with_reducible apply And.intro) <;> try exact sd)); (try first | refine XK.p hih ok136 ?_ | refine XK.gp hih ok136 ?_))
      refine again (i + 1) (fun j => if j = 64 then some 4672 else some j) [] _ hlt (by omega) ?_
      simp (maxSteps := 9999999) only [go_sem, TmOK, DM, DMs, CM, CMs, forall_eq, exists_eq_left, Mq, HpOK, LowOK, hsx, stC_snoc, List.cons_append, List.nil_append]
      simp
      exact CMs.kf (kf_app (stC_kf _) (by simp [kf]))
    · have hn : ¬ i < l.length := by omega
      obtain rfl : i = l.length := by omega
      refine drvL Tryz.func109 ?_
      simp (maxSteps := 9999999) only [go_sem, hn, List.take_length]
      iterate 2 ((try (refine drvZ Tryz.func109 ?_; simp (maxSteps := 9999999) only [go_sem, hn, List.take_length])); (try ((with_reducible refine And.intro ?_ ?_) <;> (repeat' with_reducible apply And.intro) <;> try exact sd)))
      refine RetOb.ofQ (fun j => none) [64] (.c (.isl 11 (St1.cellsL l))) [] ?_ ⟨rfl, rfl⟩ (by simp)
      have g1 : (St1.cellsL l).flatten = stC l := by rw [St1.cellsL_eq]; rfl
      have g2 : ∀ x ∈ St1.cellsL l, x.length = 11 := fun x hx => by rw [St1.cellsL_eq] at hx; obtain ⟨e, _, rfl⟩ := List.mem_map.1 hx; exact St1.cells_len e
      have g3 : ∀ x ∈ St1.cellsL l, ∀ c ∈ x, kf c = true := fun x hx => by rw [St1.cellsL_eq] at hx; obtain ⟨e, _, rfl⟩ := List.mem_map.1 hx; exact st_kf e
      simp only [enumL, hOf, DM, DMs, CM, CMs, HpOK, LowOK, upd, St1.cellsL_length, g1]
      first | (simp; exact ⟨g2, g3⟩) | (simp [g2]; exact g3) | exact ⟨g2, g3⟩
  · simp (maxSteps := 9999999) only [go_sem, TmOK, DM, DMs, CM, CMs, forall_eq, exists_eq_left, Mq, HpOK, LowOK]
    simp [stC, CMs]
theorem sownS : ∀ (d : Nat) (s : St1), SmS d s → DC Tryz.prog 136 [.agg s.cells] [] (fun r h => r = .agg s.cells ∧ h = [])
  | 0, .mk k t ix v c b e, h => by
    simp only [SmS] at h
    obtain ⟨h1, h2, rfl, rfl⟩ := h
    have hn := sownLS [] (by simp) (by simp)
    exact sownSO k t ix v c [] [] h1 h2 hn hn
  | d + 1, .mk k t ix v c b e, h => by
    simp only [SmS] at h
    obtain ⟨h1, h2, h3, h4, h5, h6⟩ := h
    exact sownSO k t ix v c b e h1 h2 (sownLS b (by omega) fun s hs => sownS d s (h5 s hs)) (sownLS e (by omega) fun s hs => sownS d s (h6 s hs))
theorem sownP (p : Pg) (hp : SmP p) : DC Tryz.prog 63 [.agg p.cells] [] (fun r h => r = .agg p.cells ∧ h = []) := by
  have hmx := mx_eq
  have hbd := sownLS p.body (by have := hp.nb; omega) fun s hs => sownS 2 s (hp.sm s hs)
  have hv := hp.nv
  have ha := hp.na
  obtain ⟨vs, ar, bd⟩ := p
  simp only at hv ha hbd
  have hgv := flat_I vs
  have hga := flat_I ar
  refine dcZ Tryz.func63 ?_
  simp (maxSteps := 9999999) only [go_sem, flat_I']
  iterate 8 ((try (refine drvZ Tryz.func63 ?_; simp (maxSteps := 9999999) only [go_sem, flat_I'])); (try ((with_reducible refine And.intro ?_ ?_) <;> (repeat' with_reducible apply And.intro) <;> try exact sd)); (try first | refine XK.p hbd ok109 ?_ | refine XK.gp hbd ok109 ?_))
  refine RetOb.ofQ (fun j => none) [320, 704] (.agg [.isl 1 (vs.map fun n => [I64 n]), .isl 1 (ar.map fun n => [I64 n]), .isl 11 (St1.cellsL bd)]) [] ?_ ⟨rfl, rfl⟩ (by simp)
  simp [enumL, hOf, DM, CM, CMs, HpOK, LowOK, upd, hgv, hga, kf, List.take_of_length_le]
end Go.Proofs.YtmagbjbanpgmhaaGreat.CtD

namespace Go.Proofs.YtmagbjbanpgmhaaGreat.CtD
open Go Go.CT CtF CtR

def st0 (w : Nat) : List Nat := (List.range w).map fun i => 2 ^ i
theorem st0_len (w : Nat) : (st0 w).length = w := by simp [st0]
theorem st0_succ {w i : Nat} (h : i < w) : rowsC w ((st0 w).take (i + 1)) = rowsC w ((st0 w).take i) ++ [boolsD (bl w (2 ^ i))] :=
  rowsC_succ w (st0 w) i (2 ^ i) (by simp [st0, h])
theorem bl_one {w i : Nat} (h : i < w) : (boolsC (bl w 0)).set i (.v (.bool true)) = boolsC (bl w (2 ^ i)) := by
  rw [boolsC_set]
  congr 1
  refine bl_ext (by simp [bl_len]) fun j hj => ?_
  rw [List.getD_eq_getElem?_getD, List.getElem?_set]
  by_cases e : i = j
  · subst e; simp [bl_len, h]
  · rw [if_neg e, ← bl_zero, List.getElem?_replicate, if_pos hj, Nat.testBit_two_pow]; simp [e]
theorem startS {w : Nat} (p : Pg) (hw : p.vars.length + p.arrays.length = w) (hw14 : w ≤ 14) (w0 : 0 < w) : DC Tryz.prog 64 [.agg p.cells] []
    (fun r h => r = .agg (p.cells ++ [rowsD w (startD w).sets, .msl 0 1 0 w, .msl 1 1 0 w]) ∧ h = [some (boolsC (bl w 0)), some (boolsC (bl w 0))]) := by
  have hmx := mx_eq
  have hce := cellsS p (by omega) (by omega)
  rw [hw] at hce
  obtain ⟨vs, ar, bd⟩ := p
  have hw : vs.length + ar.length = w := hw
  generalize hR : (fun (r : D) (h : List (Option (List C))) => r = .agg _ ∧ h = _) = R
  have hz : boolsC (List.replicate w false) = boolsC (bl w 0) := by rw [bl_zero]
  refine dcZ Tryz.func64 ?_
  simp (maxSteps := 9999999) only [go_sem]
  iterate 4 ((try (refine drvZ Tryz.func64 ?_; simp (maxSteps := 9999999) only [go_sem, boolsC_rep, bl_zero])); (try ((with_reducible refine And.intro ?_ ?_) <;> (repeat' with_reducible apply And.intro) <;> try exact sd)); (try first | refine XK.p hce ok46 ?_ | refine XK.gp hce ok46 ?_))
  refine Go.loopQ (fun i : Nat => [(2, .c (.ptr 64 0)), (3, DI .i64 w), (4, .c (.ptr 704 0)), (5, DI .i64 i)])
    (fun i => [(64, some [.v (.slice none 0 0), .v (.slice none 0 0), .v (.slice none 0 0), .v (.slice none 0 0), .v (.slice none 0 0), .v (.slice none 0 0)]), (448, some (boolsC (bl w 0))), (576, some (boolsC (bl w 0))), (704, some (Pg.cells ⟨vs, ar, bd⟩ ++ [.msl 800 1 0 i, .msl 448 1 0 w, .msl 576 1 0 w])), (800, some (rowsC w ((st0 w).take i)))])
    4096 (fun i => i ≤ w) (fun i => w - i) ?_ 0 (fun j => if j = 800 then none else some j) [] _ (Nat.zero_le _) ?_
  · intro i hi again
    have hcl := rowsC_len w ((st0 w).take i)
    rw [List.length_take, st0_len, Nat.min_eq_left hi] at hcl
    rcases Nat.lt_or_ge i w with hlt | hge
    · have hbo := bl_one hlt
      have hsn := st0_succ hlt
      have hbl := bl_len w 0
      have hbc := boolsC_len (bl w 0)
      rw [hbl] at hbc
      refine drvL Tryz.func64 ?_
      simp (maxSteps := 9999999) only [go_sem, hlt, boolsC_rep, bl_zero]
      iterate 3 ((try (refine drvZ Tryz.func64 ?_; simp (maxSteps := 9999999) only [go_sem, hlt, boolsC_rep, bl_zero, hbo, hcl, hbc])); (try ((with_reducible refine And.intro ?_ ?_) <;> (repeat' with_reducible apply And.intro) <;> try exact sd)))
      refine again (i + 1) (fun j => if j = 800 then some 4992 else some j) [4352] _ hlt (by omega) ?_
      rw [hsn]
      simp (maxSteps := 9999999) only [go_sem, TmOK, DM, DMs, CM, CMs, forall_eq, exists_eq_left, Mq, HpOK, LowOK]
      repeat' with_reducible apply And.intro
      all_goals first | exact CMs.kf (boolsC_kf _) | (simp; done) | exact CMs.app (CMs.kf (rowsC_kf _ _)) ⟨cm_bools (by simp) rfl, by simp [CMs]⟩ | skip
    · have hn : ¬ i < w := by omega
      obtain rfl : w = i := by omega
      rw [List.take_of_length_le (by rw [st0_len]; omega)]
      refine drvL Tryz.func64 ?_
      simp (maxSteps := 9999999) only [go_sem, hn]
      iterate 2 ((try (refine drvZ Tryz.func64 ?_; simp (maxSteps := 9999999) only [go_sem, hn])); (try ((with_reducible refine And.intro ?_ ?_) <;> (repeat' with_reducible apply And.intro) <;> try exact sd)))
      refine RetOb.ofQ (fun j => if j = 0 then some 448 else if j = 1 then some 576 else none) [800] (.agg (Pg.cells ⟨vs, ar, bd⟩ ++ [rowsD w (startD w).sets, .msl 0 1 0 w, .msl 1 1 0 w])) [some (boolsC (bl w 0)), some (boolsC (bl w 0))] ?_ (by rw [← hR]; exact ⟨rfl, rfl⟩) (by simp)
      simp only [enumL, DM, DMs, HpOK, LowOK, hOf, upd, hpL, Pg.cells, isI, I64, List.cons_append, List.nil_append, CMs]
      repeat' with_reducible apply And.intro
      all_goals first | exact cm_rows (by simp) rfl (st0_len w) | exact CM.kf rfl | exact CMs.kf (boolsC_kf _) | (simp [CM, upd]; done) | (simp; exact CMs.kf (boolsC_kf _)) | skip
  · simp (maxSteps := 9999999) only [go_sem, TmOK, DM, DMs, CM, CMs, forall_eq, exists_eq_left, Mq, HpOK, LowOK]
    simp
    repeat' with_reducible apply And.intro
    all_goals first | exact CMs.kf (boolsC_kf _) | (simp [rowsC, CMs]; done) | skip
theorem depP_eq (p : Pg) {w : Nat} (hw : p.vars.length + p.arrays.length = w) : foldD p.vars.length 5 0 p.body (startD w) = depP p := by rw [← hw]; rfl
theorem traceDependsS (p : Pg) {w : Nat} (hw : p.vars.length + p.arrays.length = w) (hw14 : w ≤ 14) (w0 : 0 < w) (hp : SmP p) (hok : progOK p = true) : DC Tryz.prog 23 [.agg p.cells] [] (fun r h => r = .c (boolsD (bl w (depP p).tr)) ∧ h = []) := by
  have hmx := mx_eq
  have hown := sownP p hp
  have hv := programValidS p (by omega) (by omega) (by have := hp.sz 5; omega)
  rw [hok] at hv
  have hst := startS p hw hw14 w0
  have hbk := blockD p hw hw14 w0 5 p.body (startD w) 0 (start_ok hw14) (Nat.two_pow_pos w) (body_of hok).1 (by have := (body_of hok).2; omega)
  rw [depP_eq p hw] at hbk
  have hce := cellsS p (by omega) (by omega)
  rw [hw] at hce
  generalize depP p = X at *
  obtain ⟨xs, xt, xr⟩ := X
  obtain ⟨vs, ar, bd⟩ := p
  generalize hR : (fun (r : D) (h : List (Option (List C))) => r = .c _ ∧ h = []) = R
  simp only at hbk
  refine dcZ Tryz.func23 ?_
  simp (maxSteps := 9999999) only [go_sem]
  iterate 6 ((try (refine drvZ Tryz.func23 ?_; simp (maxSteps := 9999999) only [go_sem])); (try ((with_reducible refine And.intro ?_ ?_) <;> (repeat' with_reducible apply And.intro) <;> try exact sd)); (try first | refine XK.p hown ok63 ?_ | refine XK.gp hown ok63 ?_ | refine XK.p hv ok54 ?_ | refine XK.gp hv ok54 ?_))
  refine XK.callG [] hst ok64 (fun i' x h => by simp at h) (hbT ()) (fun d h' ⟨_, e⟩ => by subst e; simp) ?_
  rintro _ _ ⟨rfl, rfl⟩ _
  iterate 4 ((try (refine drvZ Tryz.func23 ?_; simp (maxSteps := 9999999) only [go_sem, boolsC_ren, rowsD, boolsC_rep, bl_zero])); (try ((with_reducible refine And.intro ?_ ?_) <;> (repeat' with_reducible apply And.intro) <;> try exact sd)); (try first | refine XK.p hce ok46 ?_ | refine XK.gp hce ok46 ?_))
  refine XK.callG [576, 577, 1088] hbk ok65 (hhpG (by simp [HH, upd, hOf, boolsC_ren, startD])) (hbT ()) (fun d h' ⟨_, e⟩ => by subst e; simp) ?_ (fun _ => ⟨by kernel_rfl, _, _, ⟨rfl, rfl⟩, by simp⟩)
  rintro _ _ ⟨rfl, rfl⟩ _
  iterate 3 ((try (refine drvZ Tryz.func23 ?_; simp (maxSteps := 9999999) only [go_sem, boolsC_ren, rowsD])); (try ((with_reducible refine And.intro ?_ ?_) <;> (repeat' with_reducible apply And.intro) <;> try exact sd)))
  refine RetOb.frozen (xs := (bl w xt).map fun b => [BC b]) (by rw [← hR]; exact ⟨rfl, rfl⟩) (k := 576) ?_ (by simp [bl_len]) ?_ ?_
  · rw [boolsC_flat]; simp [upd]
  · intro x hx
    obtain ⟨b, _, rfl⟩ := List.mem_map.1 hx
    rfl
  · intro x hx c hc
    obtain ⟨b, _, rfl⟩ := List.mem_map.1 hx
    simp only [List.mem_singleton] at hc
    subst hc; rfl
theorem traceDependsS0 (p : Pg) (hp : SmP p) (hok : progOK p = false) : DC Tryz.prog 23 [.agg p.cells] [] (fun r h => r = .c (.isl 1 []) ∧ h = []) := by
  have hmx := mx_eq
  have hown := sownP p hp
  have hnv := hp.nv
  have hna := hp.na
  have hv := programValidS p (by omega) (by omega) (by have := hp.sz 5; omega)
  rw [hok] at hv
  obtain ⟨vs, ar, bd⟩ := p
  generalize hR : (fun (r : D) (h : List (Option (List C))) => r = .c (.isl 1 []) ∧ h = []) = R
  refine dcZ Tryz.func23 ?_
  simp (maxSteps := 9999999) only [go_sem]
  iterate 6 ((try (refine drvZ Tryz.func23 ?_; simp (maxSteps := 9999999) only [go_sem])); (try ((with_reducible refine And.intro ?_ ?_) <;> (repeat' with_reducible apply And.intro) <;> try exact sd)); (try first | refine XK.p hown ok63 ?_ | refine XK.gp hown ok63 ?_ | refine XK.p hv ok54 ?_ | refine XK.gp hv ok54 ?_))
  refine RetOb.frozen (R := R) (sz := 1) (xs := []) (by rw [← hR]; exact ⟨rfl, rfl⟩) ?_ rfl (by simp) (by simp)
  simp [upd]
end Go.Proofs.YtmagbjbanpgmhaaGreat.CtD

namespace Go.Proofs.YtmagbjbanpgmhaaGreat.CtD
open Go Go.CT CtF CtR

theorem ctBoolsR (bs : List Bool) (hl : bs.length ≤ mx) : DC Tryz.prog 22 [.c (boolsD bs), .c (boolsD bs)] [] (fun r h => r = DB true ∧ h = []) := by
  have hmx := mx_eq
  have ret : ∀ (hp : Hp), RetOb 0 (fun r h => r = DB true ∧ h = []) (DB true) hp := fun hp => RetOb.plain (d := DB _) ⟨rfl, rfl⟩ rfl
  generalize (fun (r : D) (h : List (Option (List C))) => r = DB true ∧ h = []) = R at *
  have hb : ((bs.length : Int) != bs.length) = false := by simp
  refine dcZ Tryz.func22 ?_
  simp (maxSteps := 9999999) only [go_sem, boolsD, hb]
  iterate 2 ((try (refine drvZ Tryz.func22 ?_; simp (maxSteps := 9999999) only [go_sem, boolsD, hb])); (try ((with_reducible refine And.intro ?_ ?_) <;> (repeat' with_reducible apply And.intro) <;> try exact sd)))
  refine Go.loopQ (fun i : Nat => [(0, .c (boolsD bs)), (1, .c (boolsD bs)), (5, DI .i64 i)]) (fun _ => []) 1024 (fun i => i ≤ bs.length) (fun i => bs.length - i) ?_ 0 some [] _ (Nat.zero_le _) ?_
  · intro i hi again
    rcases Nat.lt_or_ge i bs.length with hlt | hge
    · obtain ⟨x, hx⟩ : ∃ x, bs[i]? = some x := ⟨bs[i], by simp [hlt]⟩
      have hne : (x != x) = false := by simp
      refine drvL Tryz.func22 ?_
      simp (maxSteps := 9999999) only [go_sem, boolsD, hx, hlt, hne, bne_self_eq_false]
      iterate 3 ((try (refine drvZ Tryz.func22 ?_; simp (maxSteps := 9999999) only [go_sem, boolsD, hx, hlt, hne, bne_self_eq_false])); (try ((with_reducible refine And.intro ?_ ?_) <;> (repeat' with_reducible apply And.intro) <;> try exact sd)))
      refine again (i + 1) some [] _ hlt (by omega) ?_
      simp (maxSteps := 9999999) only [go_sem, TmOK, DM, DMs, CM, CMs, forall_eq, exists_eq_left, Mq, HpOK, LowOK, boolsD]
      try simp
    · have hn : ¬ i < bs.length := by omega
      refine drvL Tryz.func22 ?_
      simp (maxSteps := 9999999) only [go_sem, boolsD, hn]
      iterate 3 ((try (refine drvZ Tryz.func22 ?_; simp (maxSteps := 9999999) only [go_sem, boolsD, hn])); (try ((with_reducible refine And.intro ?_ ?_) <;> (repeat' with_reducible apply And.intro) <;> try exact sd)))
      exact ret _
  · simp (maxSteps := 9999999) only [go_sem, TmOK, DM, DMs, CM, CMs, forall_eq, exists_eq_left, Mq, HpOK, LowOK, boolsD]
    try simp
theorem traceDependsI0 (p : Pg) (hl : p.vars.length ≤ mx) (hl2 : p.arrays.length ≤ mx) (hok : progOK p = false) : DC Tryz.prog 21 [.agg p.cells] [] (fun r h => r = .c (.isl 1 []) ∧ h = []) := by
  have hmx := mx_eq
  have hv := programValidI p hl hl2
  rw [hok] at hv
  obtain ⟨vs, ar, bd⟩ := p
  generalize hR : (fun (r : D) (h : List (Option (List C))) => r = .c (.isl 1 []) ∧ h = []) = R
  refine dcZ Tryz.func21 ?_
  simp (maxSteps := 9999999) only [go_sem]
  iterate 4 ((try (refine drvZ Tryz.func21 ?_; simp (maxSteps := 9999999) only [go_sem])); (try ((with_reducible refine And.intro ?_ ?_) <;> (repeat' with_reducible apply And.intro) <;> try exact sd)); (try first | refine XK.p hv ok41 ?_ | refine XK.gp hv ok41 ?_))
  refine RetOb.ofQ (fun j => none) [] (.c (.isl 1 [])) [] ?_ (by rw [← hR]; exact ⟨rfl, rfl⟩) (by simp)
  simp [enumL, DM, CM, HpOK, LowOK]
end Go.Proofs.YtmagbjbanpgmhaaGreat.CtD

namespace Go.Proofs.YtmagbjbanpgmhaaGreat.CtR
open Go Go.CT CtF

/-! A checked program's dependencies keep to its labels. -/
/-- A cell's label has a bit. -/
def hiC (β : Nat) (vs ar : List Int) (i : Nat) : Bool := if i < vs.length then (nth vs (i : Nat)).toNat.testBit β else (nth ar ((i - vs.length : Nat) : Int)).toNat.testBit β
/-- A set has no cell whose label has the bit. -/
def LoN (β : Nat) (vs ar : List Int) (a : Nat) : Prop := ∀ k, hiC β vs ar k = true → a.testBit k = false
theorem LoN.or {β : Nat} {vs ar : List Int} {a b : Nat} (h : LoN β vs ar a) (h' : LoN β vs ar b) : LoN β vs ar (a ||| b) := fun k hk => by
  rw [Nat.testBit_or, h k hk, h' k hk]; rfl
theorem LoN.orL {β : Nat} {vs ar : List Int} {l : List Nat} (h : ∀ x ∈ l, LoN β vs ar x) : LoN β vs ar (CtR.orL l) := fun k hk => by
  unfold CtR.orL; rw [or_bit]; exact ⟨by simp, fun x hx => h x hx k hk⟩
theorem LoN.zero {β : Nat} {vs ar : List Int} : LoN β vs ar 0 := fun k _ => by simp
def Sec (β : Nat) (vs ar : List Int) (s : List Nat) : Prop := ∀ i, hiC β vs ar i = false → LoN β vs ar (dat s i)
theorem Sec.set {β : Nat} {vs ar : List Int} {s : List Nat} (h : Sec β vs ar s) {i x : Nat} (hx : hiC β vs ar i = false → LoN β vs ar x) : Sec β vs ar (s.set i x) := fun j hj => by
  rw [dat_set]
  by_cases e : i = j ∧ i < s.length
  · rw [if_pos e]; obtain ⟨rfl, _⟩ := e; exact hx hj
  · rw [if_neg e]; exact h j hj
theorem Sec.unite {β : Nat} {vs ar : List Int} {s t : List Nat} (h : Sec β vs ar s) (h' : Sec β vs ar t) (hl : t.length = s.length) : Sec β vs ar (CtR.unite s t) := fun i hi => by
  rw [dat_unite hl]; exact (h i hi).or (h' i hi)
theorem hiC_var {β : Nat} {vs ar : List Int} {v : Int} (h0 : 0 ≤ v) (h1 : v < vs.length) : hiC β vs ar v.toNat = (nth vs v).toNat.testBit β := by
  unfold hiC; rw [if_pos (by omega), Int.toNat_of_nonneg h0]
theorem hiC_arr {β : Nat} {vs ar : List Int} {v : Int} (h0 : 0 ≤ v) : hiC β vs ar (vs.length + v.toNat) = (nth ar v).toNat.testBit β := by
  unfold hiC; rw [if_neg (by omega), Nat.add_sub_cancel_left, Int.toNat_of_nonneg h0]
theorem setE_sec {β : Nat} {p : Pg} {s : List Nat} (hS : Sec β p.vars p.arrays s) : ∀ (d : Nat) (e : Ex), shape p d e = true → (labN p.vars p.arrays d e).testBit β = false → LoN β p.vars p.arrays (setE p.vars.length s d e).1
  | 0, _, _, _ => LoN.zero
  | d + 1, .mk k v ks, hs, hb => by
    obtain ⟨g1, g2, g3⟩ := shape_succ hs
    obtain ⟨_, _, hv0, hv1⟩ := fits_len g1
    simp only [labN, or_bit, List.mem_map] at hb
    have ho : LoN β p.vars p.arrays (orL (ks.map fun e => (setE p.vars.length s d e).1)) := LoN.orL fun x hx => by
      obtain ⟨e, he, rfl⟩ := List.mem_map.1 hx
      exact setE_sec hS d e (g2 e he) (hb.2 _ ⟨e, he, rfl⟩)
    simp only [setE]
    split
    · rename_i k2
      subst k2
      refine ho.or (hS _ ?_)
      rw [hiC_var hv0 (by simpa [limit] using hv1)]
      have := hb.1
      simpa [labB] using this
    · split
      · rename_i k3
        subst k3
        refine ho.or (hS _ ?_)
        rw [hiC_arr hv0]
        have := hb.1
        simpa [labB] using this
      · exact ho
theorem setE_tr {p : Pg} {s : List Nat} (hS : Sec 0 p.vars p.arrays s) : ∀ (d : Nat) (e : Ex), shape p d e = true → secE p.vars p.arrays d e = false → LoN 0 p.vars p.arrays (setE p.vars.length s d e).2
  | 0, _, _, _ => LoN.zero
  | d + 1, .mk k v ks, hs, hb => by
    obtain ⟨g1, g2, g3⟩ := shape_succ hs
    obtain ⟨_, hla, hv0, hv1⟩ := fits_len g1
    simp only [secE, Bool.or_eq_false_iff, List.any_eq_false, Bool.not_eq_true] at hb
    have ha : LoN 0 p.vars p.arrays (orL (ks.map fun e => (setE p.vars.length s d e).2)) := LoN.orL fun x hx => by
      obtain ⟨e, he, rfl⟩ := List.mem_map.1 hx
      exact setE_tr hS d e (g2 e he) (hb.2 e he)
    simp only [setE]
    split
    · exact ha
    · split
      · rename_i k3
        subst k3
        refine ha.or ?_
        have h1 : ks.length = 1 := by simp [arity] at hla; omega
        match ks, h1 with
        | [a], _ =>
          have := hb.1
          simp only [beq_self_eq_true, Bool.true_and, kid0, secL] at this
          refine LoN.orL fun x hx => ?_
          simp only [List.map_cons, List.map_nil, List.mem_singleton] at hx
          subst hx
          exact setE_sec hS d a (g2 a (by simp)) this
      · exact ha
theorem atom_tr {p : Pg} {nv : Nat} {s : List Nat} {ix : Ex} (ha : atom ix = true) (hs : shape p 5 ix = true) : (setE nv s 5 ix).2 = 0 := by
  obtain ⟨k, v, ks⟩ := ix
  obtain ⟨g1, g2, g3⟩ := shape_succ hs
  obtain ⟨_, hla, _, _⟩ := fits_len g1
  have hk : k = 1 ∨ k = 2 := by simpa [atom, Ex.kind] using ha
  have hn : ks = [] := List.eq_nil_of_length_eq_zero (by rcases hk with rfl | rfl <;> simpa [arity] using hla)
  subst hn
  rcases hk with rfl | rfl <;> simp [setE, orL]
theorem start_sec {β : Nat} (vs ar : List Int) (w : Nat) : Sec β vs ar (startD w).sets := fun i hi k hk => by
  have e : dat (startD w).sets i = if i < w then 2 ^ i else 0 := by
    unfold dat startD
    rw [List.getD_eq_getElem?_getD]
    by_cases h : i < w
    · simp [h]
    · rw [if_neg h, List.getElem?_eq_none (by simpa using h)]; rfl
  rw [e]
  split
  · rw [Nat.testBit_two_pow]
    simp only [decide_eq_false_iff_not]
    rintro rfl
    rw [hi] at hk; cases hk
  · simp
theorem stored_low {β : Nat} {vs ar : List Int} {s : St1} {c : Nat} (h : (storedN vs ar s c).testBit β = false) : (labN vs ar 5 s.value).testBit β = false ∧ c.testBit β = false ∧ (s.kind = 2 → (labN vs ar 5 s.index).testBit β = false) := by
  unfold storedN at h
  split at h
  · simp only [Nat.testBit_or, Bool.or_eq_false_iff] at h
    exact ⟨h.1.1, h.1.2, fun _ => h.2⟩
  · simp only [Nat.testBit_or, Bool.or_eq_false_iff] at h
    rename_i hk
    exact ⟨h.1, h.2, fun e => absurd e hk⟩

/-- The sets, and, where b says so, the trace. -/
def SecD (b : Bool) (β : Nat) (vs ar : List Int) (s : Dp) : Prop := Sec β vs ar s.sets ∧ (b = true → LoN β vs ar s.tr)
theorem dep_sec {w β : Nat} {p : Pg} (hw : p.vars.length + p.arrays.length = w) (q : Bool) (hq : q = true → β = 0) : ∀ (d c cs : Nat) (l : List St1), (∀ s ∈ l, stmtOK p d s = true) → fineL (flowR p.vars p.arrays) p.vars p.arrays d c l = true →
    (q = true → fineL (leakR p.vars p.arrays) p.vars p.arrays d c l = true) → freeL d l = true → cs < 2 ^ w → (c.testBit β = false → LoN β p.vars p.arrays cs) → ∀ s, Okd w s → SecD q β p.vars p.arrays s → SecD q β p.vars p.arrays (l.foldl (depS p.vars.length d cs) s)
  | 0, c, cs, l, _, _, _, _, _, _, s, _, h => by
    refine fold_inv (Q := SecD q β p.vars p.arrays) l s h fun x _ s hs => ?_
    exact hs
  | d + 1, c, cs, l, hok, hf, hlk, hfr, hcs, hcl, s, hO, h => by
    have key : ∀ (x : St1), x ∈ l → ∀ s, (Okd w s ∧ SecD q β p.vars p.arrays s) → (Okd w (depS p.vars.length (d + 1) cs s x) ∧ SecD q β p.vars p.arrays (depS p.vars.length (d + 1) cs s x)) := by
      intro x hx s ⟨hO, h1, h2⟩
      refine ⟨dep_ok (d + 1) cs s x hcs hO, ?_⟩
      obtain ⟨k, t, ix, v, cc, b, e⟩ := x
      have hso := hok _ hx
      have hbe := stmtOK_succ hso
      have hhk := head_kind hbe.1
      obtain ⟨s1, s2⟩ := shapeV hso
      simp only [fineL, List.all_eq_true, Bool.and_eq_true, beq_iff_eq] at hf
      obtain ⟨⟨f1, f2⟩, f3⟩ := hf _ hx
      have hlk' : q = true → leakR p.vars p.arrays (.mk k t ix v cc b e) c = 0 ∧ fineL (leakR p.vars p.arrays) p.vars p.arrays d (ctxI p.vars p.arrays (.mk k t ix v cc b e) c) b = true ∧ fineL (leakR p.vars p.arrays) p.vars p.arrays d (ctxI p.vars p.arrays (.mk k t ix v cc b e) c) e = true := fun hq => by
        have := hlk hq
        simp only [fineL, List.all_eq_true, Bool.and_eq_true, beq_iff_eq] at this
        obtain ⟨⟨g1, g2⟩, g3⟩ := this _ hx
        exact ⟨g1, g2, g3⟩
      simp only [freeL, List.all_eq_true, Bool.and_eq_true] at hfr
      obtain ⟨⟨r1, r2⟩, r3⟩ := hfr _ hx
      have hne5 : k ≠ 5 := by simpa [St1.kind] using r1
      simp only [St1.body, St1.els] at f2 f3 r2 r3
      have hV := setE_lt (nv := p.vars.length) hO.row 5 v
      have hI := setE_lt (nv := p.vars.length) hO.row 5 ix
      have hvt : k ≠ 4 → q = true → LoN β p.vars p.arrays (setE p.vars.length s.sets 5 v).2 := fun k4 hq' => by
        have hb := hq hq'
        subst hb
        exact setE_tr h1 5 v (s1 k4) (leak_spec (hlk' hq').1).2.2
      have hkey : k = 4 ∨ k = 1 ∨ k = 2 ∨ k = 3 := by omega
      rcases hkey with hk | hk | hk | hk <;> subst hk
      · have hctx : ctxI p.vars p.arrays (.mk 4 t ix v cc b e) c = c := by simp [ctxI, St1.kind]
        rw [hctx] at f2 hlk'
        rw [depS_4]
        have ih := fun s hO h => dep_sec hw q hq d c cs b hbe.2.1 f2 (fun hq => (hlk' hq).2.1) r2 hcs hcl s hO h
        obtain ⟨y, hy, hQ, e1, _⟩ := fix_spec (f := fun s => b.foldl (depS p.vars.length d cs) s) (fun s hs => foldl_ok hcs b hs) (SecD q β p.vars p.arrays)
          (fun y hy hQ => ⟨hQ.1.unite (ih y hy hQ).1 (by rw [(foldl_ok hcs b hy).len, hy.len]), (ih y hy hQ).2⟩) FU s hO ⟨h1, h2⟩ (fu_big hO.le _)
        rw [e1]
        exact ⟨hQ.1, (ih y hy hQ).2⟩
      · rw [depS_1]
        have hfl := flow_assign f1 rfl
        have ht := hhk
        refine ⟨h1.set fun hlo => ?_, fun hq' => (h2 hq').or (hvt (by decide) hq')⟩
        rw [hiC_var (by omega) (by omega)] at hlo
        obtain ⟨l1, l2, _⟩ := stored_low (subL_low hfl hlo)
        exact (setE_sec h1 5 v (s1 (by decide)) l1).or (hcl l2)
      · rw [depS_2]
        have hfl := flow_store f1 rfl
        refine ⟨h1.set fun hlo => ?_, fun hq' => (((h2 hq').or (hvt (by decide) hq')).or ?_).or ?_⟩
        · have hlo2 := hlo
          rw [hiC_arr (by omega)] at hlo
          obtain ⟨l1, l2, l3⟩ := stored_low (subL_low hfl hlo)
          exact (h1 _ hlo2).or (((setE_sec h1 5 v (s1 (by decide)) l1).or (setE_sec h1 5 ix (s2 rfl) (l3 rfl))).or (hcl l2))
        · have hb := hq hq'
          subst hb
          have hat : atom ix = true := by grind
          rw [atom_tr hat (s2 rfl)]
          exact LoN.zero
        · have hb := hq hq'
          subst hb
          exact setE_sec h1 5 ix (s2 rfl) ((leak_spec (hlk' hq').1).2.1 rfl)
      · rw [depS_3]
        have hctx : ctxI p.vars p.arrays (.mk 3 t ix v cc b e) c = c ||| labN p.vars p.arrays 5 v := by simp [ctxI, St1.kind, St1.value]
        rw [hctx] at f2 f3 hlk'
        have hcs2 := Nat.or_lt_two_pow hcs hV.1
        have hcl2 : (c ||| labN p.vars p.arrays 5 v).testBit β = false → LoN β p.vars p.arrays (cs ||| (setE p.vars.length s.sets 5 v).1) := fun hb => by
          simp only [Nat.testBit_or, Bool.or_eq_false_iff] at hb
          exact (hcl hb.1).or (setE_sec h1 5 v (s1 (by decide)) hb.2)
        have o1 : Okd w ⟨s.sets, s.tr ||| (setE p.vars.length s.sets 5 v).2 ||| (setE p.vars.length s.sets 5 v).1, s.re⟩ := ⟨hO.len, hO.le, hO.row, Nat.or_lt_two_pow (Nat.or_lt_two_pow hO.tr hV.2) hV.1, hO.re⟩
        have hY : SecD q β p.vars p.arrays (ifY p.vars.length d cs s v b) := dep_sec hw q hq d _ _ b hbe.2.1 f2 (fun hq => (hlk' hq).2.1) r2 hcs2 hcl2 _ o1 ⟨h1, fun hq' => ((h2 hq').or (hvt (by decide) hq')).or (by
          have hb := hq hq'
          subst hb
          exact setE_sec h1 5 v (s1 (by decide)) ((leak_spec (hlk' hq').1).1 rfl))⟩
        have oY : Okd w (ifY p.vars.length d cs s v b) := foldl_ok hcs2 b o1
        have o2 : Okd w ⟨s.sets, (ifY p.vars.length d cs s v b).tr, (ifY p.vars.length d cs s v b).re⟩ := ⟨hO.len, hO.le, hO.row, oY.tr, oY.re⟩
        have hN : SecD q β p.vars p.arrays (ifN p.vars.length d cs s v b e) := dep_sec hw q hq d _ _ e hbe.2.2 f3 (fun hq => (hlk' hq).2.2) r3 hcs2 hcl2 _ o2 ⟨h1, hY.2⟩
        have oN : Okd w (ifN p.vars.length d cs s v b e) := foldl_ok hcs2 e o2
        exact ⟨hY.1.unite hN.1 (by rw [oY.len, oN.len]), hN.2⟩
    exact (fold_inv (Q := fun s => Okd w s ∧ SecD q β p.vars p.arrays s) l s ⟨hO, h⟩ key).2
end Go.Proofs.YtmagbjbanpgmhaaGreat.CtR

namespace Go.Proofs.YtmagbjbanpgmhaaGreat.CtD
open Go Go.CT CtF CtR

/-- A drawn program, perhaps invalid. -/
def smR (r : D) (h : List (Option (List C))) : Prop := ∃ p : Pg, r = .agg p.cells ∧ SmP p ∧ h = []
end Go.Proofs.YtmagbjbanpgmhaaGreat.CtD

namespace Go.Proofs.YtmagbjbanpgmhaaGreat.CtD
open Go Go.CT CtF CtR

theorem drawCheckFlow (bs : List Int) (hb : Fits .u8 bs) (hl : bs.length ≤ mx) : DC Tryz.prog 44 [bytesD bs] [] smR := by
  have hmx := mx_eq
  have hop := l17Open bs hl
  have hb' := fits_take hb 2000
  have hl' : (bs.take 2000).length ≤ 2000 := by rw [List.length_take]; omega
  generalize hR : smR = R
  generalize hbs : bs.take 2000 = b2 at *
  unfold bytesD
  unfold bytesD at hop
  refine dcZ Tryz.func44 ?_
  simp (maxSteps := 9999999) only [go_sem]
  ((try (refine drvZ Tryz.func44 ?_; simp (maxSteps := 9999999) only [go_sem])); (try ((with_reducible refine And.intro ?_ ?_) <;> (repeat' with_reducible apply And.intro) <;> try exact sd)))
  refine XK.callG [] hop ok31 (fun i' x h => by simp at h) (hbT ()) (fun d h' ⟨_, e⟩ => by subst e; simp) ?_
  rintro _ _ ⟨rfl, rfl⟩ _
  iterate 2 ((try (refine drvZ Tryz.func44 ?_; simp (maxSteps := 9999999) only [go_sem, renCs_rdr])); (try ((with_reducible refine And.intro ?_ ?_) <;> (repeat' with_reducible apply And.intro) <;> try exact sd)))
  have hpr := typed b2 0 hb' hl' (by omega)
  refine XK.callG [128] hpr ok32 (hhp_one (by simp [upd, renCs_rdr])) (hbT ()) (fun d h' ⟨_, _, _, _, _, _, e⟩ => by subst e; simp) ?_
  rintro _ _ ⟨p, rfl, hp, n1, hn1, hn2, rfl⟩ _
  have hmu := l2Mutate b2 n1 p hb' hl' (by omega) hp
  obtain ⟨vs, ar, bd⟩ := p
  ((try (refine drvZ Tryz.func44 ?_; simp (maxSteps := 9999999) only [go_sem, renCs_rdr])); (try ((with_reducible refine And.intro ?_ ?_) <;> (repeat' with_reducible apply And.intro) <;> try exact sd)))
  refine XK.callG [128] hmu ok48 (hhp_one (by simp [upd, renCs_rdr])) (hbT ()) (fun d h' ⟨_, _, _, _, _, _, e⟩ => by subst e; simp) ?_
  rintro _ _ ⟨p, rfl, hp2, n2, hn3, hn4, rfl⟩ _
  obtain ⟨vs, ar, bd⟩ := p
  iterate 2 ((try (refine drvZ Tryz.func44 ?_; simp (maxSteps := 9999999) only [go_sem, renCs_rdr])); (try ((with_reducible refine And.intro ?_ ?_) <;> (repeat' with_reducible apply And.intro) <;> try exact sd)))
  exact RetOb.plain (d := .agg (Pg.cells ⟨vs, ar, bd⟩)) (by rw [← hR]; exact ⟨⟨vs, ar, bd⟩, rfl, hp2, rfl⟩) (by simp [kD, Pg.cells, isI, kf])
theorem drawCheckCT (bs : List Int) (hb : Fits .u8 bs) (hl : bs.length ≤ mx) : DC Tryz.prog 15 [bytesD bs] [] smR := by
  have hmx := mx_eq
  have hdp := drawCheckFlow bs hb hl
  generalize hR : smR = R
  rw [hR] at hdp
  unfold bytesD
  unfold bytesD at hdp
  refine dcZ Tryz.func15 ?_
  simp (maxSteps := 9999999) only [go_sem]
  ((try (refine drvZ Tryz.func15 ?_; simp (maxSteps := 9999999) only [go_sem])); (try ((with_reducible refine And.intro ?_ ?_) <;> (repeat' with_reducible apply And.intro) <;> try exact sd)))
  subst hR
  refine XK.callG [] hdp ok44 (fun i' x h => by simp at h) (hbT ()) (fun d h' ⟨_, _, _, e⟩ => by subst e; simp) ?_
  rintro _ _ ⟨p, rfl, hp2, rfl⟩ _
  obtain ⟨vs, ar, bd⟩ := p
  generalize hR : smR = R
  iterate 2 ((try (refine drvZ Tryz.func15 ?_; simp (maxSteps := 9999999) only [go_sem])); (try ((with_reducible refine And.intro ?_ ?_) <;> (repeat' with_reducible apply And.intro) <;> try exact sd)))
  exact RetOb.plain (d := .agg (Pg.cells ⟨vs, ar, bd⟩)) (by rw [← hR]; exact ⟨⟨vs, ar, bd⟩, rfl, hp2, rfl⟩) (by simp [kD, Pg.cells, isI, kf])
end Go.Proofs.YtmagbjbanpgmhaaGreat.CtD

namespace Go.Proofs.YtmagbjbanpgmhaaGreat.CtD
set_option pp.maxSteps 300000
set_option pp.deepTerms true
open Go Go.CT CtF CtR

/-- A constant-time program without releases: its trace depends on nothing secret. -/
theorem ct_sec {p : Pg} {w : Nat} (hw : p.vars.length + p.arrays.length = w) (hw14 : w ≤ 14) (hok : progOK p = true) (hc : (strictR p).1 = 0) (hfr : freeP p = true) : LoN 0 p.vars p.arrays (depP p).tr := by
  have hf : (chkR flowR p).1 = 0 := by
    unfold strictR at hc
    by_cases h : (chkR flowR p).1 = 0
    · exact h
    · rw [if_pos h] at hc; exact hc
  have hk : (chkR leakR p).1 = 0 := by
    unfold strictR at hc
    rw [if_neg (by simpa using hf)] at hc; exact hc
  have h1 := (chk_fine flowR p).1 hf
  have h2 := (chk_fine leakR p).1 hk
  unfold fineP at h1 h2
  unfold freeP at hfr
  simp only [Bool.and_eq_true] at h1 h2 hfr
  have := (dep_sec (w := w) (β := 0) (p := p) hw true (fun _ => rfl) 5 0 0 p.body (body_of hok).1 h1.2 (fun _ => h2.2) hfr.2 (Nat.two_pow_pos w) (fun _ => LoN.zero) (startD w) (start_ok hw14) ⟨start_sec _ _ _, fun _ => LoN.zero⟩).2 rfl
  unfold depP
  rw [hw]; exact this
theorem hi_var {vs ar : List Int} (h : lab3 vs) {i : Nat} (hi : i < vs.length) : ∃ T : Nat, T ≤ 3 ∧ vs[i]? = some (T : Int) ∧ hiC 0 vs ar i = secL T := by
  have hx : vs[i]? = some vs[i] := by simp [hi]
  have hl := h vs[i] (List.getElem_mem hi)
  refine ⟨vs[i].toNat, by omega, by rw [hx]; congr 1; omega, ?_⟩
  unfold hiC secL
  rw [if_pos hi]
  unfold nth
  simp [List.getD_eq_getElem?_getD, hx]
theorem lawTS (bs : List Int) (hb : Fits .u8 bs) (hl : bs.length ≤ mx) : DC Tryz.prog 5 [bytesD bs] [] (fun d h => d = DB true ∧ h = []) := by
  have hmx := mx_eq
  have hdr := drawCheckCT bs hb hl
  unfold bytesD
  unfold bytesD at hdr
  have ret : ∀ hp : Hp, RetOb 0 (fun d h => d = DB true ∧ h = []) (DB true) hp := fun hp => RetOb.plain (d := DB true) ⟨rfl, rfl⟩ rfl
  generalize hRR : (fun (d : D) (h : List (Option (List C))) => d = DB true ∧ h = []) = R at ret ⊢
  by_cases hbig : 1048576 < bs.length
  · have hz : ((1048576 : Int) < (bs.length : Int)) = True := eq_true (by omega)
    refine dcZ Tryz.func5 ?_
    simp (maxSteps := 9999999) only [go_sem, hz]
    iterate 2 ((try (refine drvZ Tryz.func5 ?_; simp (maxSteps := 9999999) only [go_sem, hz])); (try ((with_reducible refine And.intro ?_ ?_) <;> (repeat' with_reducible apply And.intro) <;> try exact sd)))
    exact ret _
  have hz : ((1048576 : Int) < (bs.length : Int)) = False := eq_false (by omega)
  refine dcZ Tryz.func5 ?_
  simp (maxSteps := 9999999) only [go_sem, hz]
  iterate 2 ((try (refine drvZ Tryz.func5 ?_; simp (maxSteps := 9999999) only [go_sem, hz])); (try ((with_reducible refine And.intro ?_ ?_) <;> (repeat' with_reducible apply And.intro) <;> try exact sd)))
  refine XK.callG [] hdr ok15 (fun i' x h => by simp at h) (hbT ()) (fun d h' ⟨_, _, _, e⟩ => by subst e; simp) ?_
  rintro _ _ ⟨p, rfl, hp, rfl⟩ _
  have hnv := hp.nv
  have hna := hp.na
  have hr0 := ctBoolsR [] (by simp)
  simp only [boolsD, List.map_nil] at hr0
  cases hok : progOK p with
  | false =>
    have hti := traceDependsI0 p (by omega) (by omega) hok
    have hts := traceDependsS0 p hp hok
    obtain ⟨vs, ar, bd⟩ := p
    iterate 8 ((try (refine drvZ Tryz.func5 ?_; simp (maxSteps := 9999999) only [go_sem, Int.natCast_zero])); (try ((with_reducible refine And.intro ?_ ?_) <;> (repeat' with_reducible apply And.intro) <;> try exact sd)); (try first | refine XK.p hti ok21 ?_ | refine XK.gp hti ok21 ?_ | refine XK.p hts ok23 ?_ | refine XK.gp hts ok23 ?_ | refine XK.p hr0 ok22 ?_ | refine XK.gp hr0 ok22 ?_))
    exact ret _
  | true =>
    have hln := prog_len hok
    obtain ⟨w, hw⟩ : ∃ w, p.vars.length + p.arrays.length = w := ⟨_, rfl⟩
    have hw14 : w ≤ 14 := by omega
    have hti := traceDependsI p hw hw14 (by omega) hok
    have hts := traceDependsS p hw hw14 (by omega) hp hok
    have hcb := ctBoolsR (bl w (depP p).tr) (by rw [bl_len]; omega)
    have hbln := bl_len w (depP p).tr
    have hbt : ∀ i, i < w → (bl w (depP p).tr)[i]? = some ((depP p).tr.testBit i) := fun i h => by simp [bl, h]
    have hci := checkCTI p (by omega) (by omega)
    have hfr := releaseFree p (by omega) (by omega)
    have hsec := ct_sec hw hw14 hok
    have hlab := labs_of hok
    generalize strictR p = x at *
    obtain ⟨code, at_⟩ := x
    simp only at hsec
    generalize freeP p = fe at *
    generalize (depP p).tr = tr at *
    have hw0' : ((w : Int) = 0) = False := eq_false (by omega)
    have hw0b : ((w : Int) == 0) = false := by simp; omega
    have hvw : p.vars.length ≤ w := by omega
    obtain ⟨vs, ar, bd⟩ := p
    clear hdr
    by_cases hz0 : code = 0
    · subst hz0
      cases fe with
      | false =>
        iterate 12 ((try (refine drvZ Tryz.func5 ?_; simp (maxSteps := 9999999) only [go_sem, hbln, hw0', hw0b, boolsD, bne_self_eq_false])); (try ((with_reducible refine And.intro ?_ ?_) <;> (repeat' with_reducible apply And.intro) <;> try exact sd)); (try first | refine XK.p hti ok21 ?_ | refine XK.gp hti ok21 ?_ | refine XK.p hts ok23 ?_ | refine XK.gp hts ok23 ?_ | refine XK.p hcb ok22 ?_ | refine XK.gp hcb ok22 ?_ | refine XK.p hci ok10 ?_ | refine XK.gp hci ok10 ?_ | refine XK.p hfr ok14 ?_ | refine XK.gp hfr ok14 ?_))
        exact ret _
      | true =>
        have hsec := hsec rfl rfl
        iterate 12 ((try (refine drvZ Tryz.func5 ?_; simp (maxSteps := 9999999) only [go_sem, hbln, hw0', hw0b, boolsD, bne_self_eq_false])); (try ((with_reducible refine And.intro ?_ ?_) <;> (repeat' with_reducible apply And.intro) <;> try exact sd)); (try first | refine XK.p hti ok21 ?_ | refine XK.gp hti ok21 ?_ | refine XK.p hts ok23 ?_ | refine XK.gp hts ok23 ?_ | refine XK.p hcb ok22 ?_ | refine XK.gp hcb ok22 ?_ | refine XK.p hci ok10 ?_ | refine XK.gp hci ok10 ?_ | refine XK.p hfr ok14 ?_ | refine XK.gp hfr ok14 ?_))
        refine Go.loopQ (fun i : Nat => [(3, .c (.ptr 384 0)), (4, .c (boolsD (bl w tr))), (7, DI .i64 i)]) (fun i => [(384, some (Pg.cells ⟨vs, ar, bd⟩))]) 8192 (fun i => i ≤ vs.length) (fun i => vs.length - i) ?_ 0 some [] _ (Nat.zero_le _) ?_
        · intro i hi again
          rcases Nat.lt_or_ge i vs.length with hlt | hge
          · obtain ⟨T, hT, hxv, hhi⟩ := hi_var (ar := ar) hlab.1 hlt
            have hsi := hsec i
            simp only at hsi
            rw [hhi] at hsi
            have hls := labelSecretI T hT
            have hbt := hbt i (by simp only at hvw; omega)
            have hiw : i < w := by simp only at hvw; omega
            generalize secL T = s at *
            generalize tr.testBit i = g at *
            cases s <;> cases g
            case true.true => exact absurd (hsi rfl) (by simp)
            all_goals
              clear hsi
              refine drvL Tryz.func5 ?_
              simp (maxSteps := 9999999) only [go_sem, hbln, boolsD, hlt]
              iterate 6 ((try (refine drvZ Tryz.func5 ?_; simp (maxSteps := 9999999) only [go_sem, hbln, boolsD, hlt, hbt, hxv, hiw])); (try ((with_reducible refine And.intro ?_ ?_) <;> (repeat' with_reducible apply And.intro) <;> try exact sd)); (try first | refine XK.p hls ok24 ?_ | refine XK.gp hls ok24 ?_ | refine XK.gs (DB false) ?_))
              refine again (i + 1) some [] _ hlt (by omega) ?_
              simp (maxSteps := 9999999) only [go_sem, TmOK, DM, DMs, CM, CMs, forall_eq, exists_eq_left, Mq, HpOK, LowOK, boolsD]
              try simp
          · have hn : ¬ i < vs.length := by omega
            refine drvL Tryz.func5 ?_
            simp (maxSteps := 9999999) only [go_sem, hbln, boolsD, hn]
            iterate 3 ((try (refine drvZ Tryz.func5 ?_; simp (maxSteps := 9999999) only [go_sem, hbln, boolsD, hn])); (try ((with_reducible refine And.intro ?_ ?_) <;> (repeat' with_reducible apply And.intro) <;> try exact sd)))
            exact ret _
        · simp (maxSteps := 9999999) only [go_sem, TmOK, DM, DMs, CM, CMs, forall_eq, exists_eq_left, Mq, HpOK, LowOK, boolsD]
          try simp
    · have g1 : (code = 0) = False := eq_false hz0
      have g2 : (code != 0) = true := by simp [hz0]
      iterate 12 ((try (refine drvZ Tryz.func5 ?_; simp (maxSteps := 9999999) only [go_sem, hbln, hw0', hw0b, boolsD, g1, g2])); (try ((with_reducible refine And.intro ?_ ?_) <;> (repeat' with_reducible apply And.intro) <;> try exact sd)); (try first | refine XK.p hti ok21 ?_ | refine XK.gp hti ok21 ?_ | refine XK.p hts ok23 ?_ | refine XK.gp hts ok23 ?_ | refine XK.p hcb ok22 ?_ | refine XK.gp hcb ok22 ?_ | refine XK.p hci ok10 ?_ | refine XK.gp hci ok10 ?_ | refine XK.gs (DB false) ?_))
      exact ret _
end Go.Proofs.YtmagbjbanpgmhaaGreat.CtD
