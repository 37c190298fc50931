/- Contracts of functions of the program, one behind the other, as plain data: what each call returns and which blocks it leaves. -/
import Derived.Test.YtmagbjbanpgmhaaGreatSFacts
import Derived.Test.YtmagbjbanpgmhaaGreatSAj
import Derived.Test.YtmagbjbanpgmhaaGreatSAk
import Derived.Test.YtmagbjbanpgmhaaGreatSAl
import Derived.Test.YtmagbjbanpgmhaaGreatSAm
import Derived.Test.YtmagbjbanpgmhaaGreatSAn
import Derived.Test.YtmagbjbanpgmhaaGreatSAp
import Derived.Test.YtmagbjbanpgmhaaGreatSAq
import Derived.Test.YtmagbjbanpgmhaaGreatSAr
import Derived.Test.YtmagbjbanpgmhaaGreatSAt
import Derived.Test.YtmagbjbanpgmhaaGreatSAu
import Derived.Test.YtmagbjbanpgmhaaGreatSAi
import Derived.Test.YtmagbjbanpgmhaaGreatSAo
set_option linter.unusedVariables false
set_option linter.unusedSimpArgs false
set_option maxHeartbeats 16000000
set_option maxRecDepth 100000
namespace Go.Proofs.YtmagbjbanpgmhaaGreat.CtD
open Go Go.CT CtF CtR

theorem wkL_bools (L : List Bool) : wkL (L.map fun b => [BC b]).flatten (boolsC L) := by
  rw [boolsC_flat]
  induction L with
  | nil => simp [boolsC, wkL]
  | cons a r ih => simp only [boolsC, List.map_cons] at ih ⊢; simp [wkL, ih]
theorem takeB (L : List Bool) : List.take L.length (boolsC L) = boolsC L := List.take_of_length_le (by rw [boolsC_len]; exact Nat.le_refl _)
theorem beqR (n : Nat) : Nat.beq n n = true := by simp
theorem jflat (L : List Bool) : (L.map fun b => [BC b]).flatten = boolsC L := boolsC_flat L

theorem sliceProgS (p : Pg) (ws : List Bool) (hl : p.vars.length ≤ mx) (hl2 : p.arrays.length ≤ mx) (hb : lsize 5 p.body ≤ 1099511627776) (hw : ws.length ≤ 1000) : DC Tryz.prog 18 [.agg p.cells, .c (boolsD ws)] [] (sliR p ws) := by
  have hmx := mx_eq
  have hv := programValidS p hl hl2 hb
  have hce := cellsS p hl hl2
  generalize hR : sliR p ws = R
  cases hq : progOK p with
  | false =>
    rw [hq] at hv
    obtain ⟨vs, ar, bd⟩ := p
    refine dcZ Tryz.func18 ?_
    simp (maxSteps := 9999999) only [go_sem]
    ((try (refine drvZ Tryz.func18 ?_; simp (maxSteps := 9999999) only [go_sem])); (try ((with_reducible refine And.intro ?_ ?_) <;> (repeat' with_reducible apply And.intro) <;> try exact sd)))
    refine XK.plain hv ok54 ?_ (hbT ())
    iterate 2 ((try (refine drvZ Tryz.func18 ?_; simp (maxSteps := 9999999) only [go_sem, boolsD, BC])); (try ((with_reducible refine And.intro ?_ ?_) <;> (repeat' with_reducible apply And.intro) <;> try exact sd)))
    refine XK.gskip 3 false (DI .i64 0) ?_ (hbT ())
    iterate 3 ((try (refine drvZ Tryz.func18 ?_; simp (maxSteps := 9999999) only [go_sem, boolsD, BC])); (try ((with_reducible refine And.intro ?_ ?_) <;> (repeat' with_reducible apply And.intro) <;> try exact sd)))
    exact RetOb.ofQ (fun _ => none) [] (.tup [.agg (Pg.cells ⟨[], [], []⟩), DB false]) [] (by simp [enumL, DM, DMs, CM, CMs, HpOK, LowOK, Pg.cells, isI, St1.cellsL]) (by rw [← hR]; exact ⟨rfl, .inr ⟨by rw [hq]; rfl, rfl⟩⟩) (by simp)
  | true =>
    rw [hq] at hv
    have hln := prog_len hq
    by_cases hwl : ws.length = p.vars.length + p.arrays.length
    · have hcond : (progOK p && decide (ws.length = p.vars.length + p.arrays.length)) = true := by rw [hq]; simp [hwl]
      have hbo := body_of hq
      have hnd := fun L hL => needsS p (by omega) 5 p.body L hbo.1 (by have := hbo.2; omega) hL
      have hcu := fun L hL => cutSp p (by omega) (by omega) L hL 5 p.body hbo.1 (by have := hbo.2; omega)
      have hun := fun L => @Under.next p ws L hbo.1
      have hus := fun L => @Under.stop p ws L hbo.1
      have hug := fun L => @Under.go p ws L hbo.1
      have hnl := fun L => needL_len p.vars.length 5 p.body L
      have hst := @Under.start p ws hwl
      have hul := fun L => @Under.len p ws L
      generalize hU : Under p ws = U at *
      generalize hLe : Least p ws = Le at *
      have hfin : ∀ L, Le (gL L) → R (.tup [.agg (Pg.cells (slP p (gL L))), DB true]) [] := fun L h => by rw [← hR]; exact ⟨rfl, .inl ⟨hcond, gL L, by rw [hLe]; exact h, rfl⟩⟩
      obtain ⟨vs, ar, bd⟩ := p
      have hln : 1 ≤ vs.length ∧ vs.length ≤ 12 ∧ ar.length ≤ 2 := hln
      have hwl : ws.length = vs.length + ar.length := hwl
      simp only at hnd hcu hun hus hug hnl hst hul hfin hce
      have hb1 : ((ws.length : Int) != (vs.length : Int) + (ar.length : Int)) = false := by rw [hwl]; simp
      have hb2 : ((ws.length : Int) = (vs.length : Int) + (ar.length : Int)) = True := eq_true (by omega)
      refine dcZ Tryz.func18 ?_
      simp (maxSteps := 9999999) only [go_sem]
      ((try (refine drvZ Tryz.func18 ?_; simp (maxSteps := 9999999) only [go_sem])); (try ((with_reducible refine And.intro ?_ ?_) <;> (repeat' with_reducible apply And.intro) <;> try exact sd)))
      refine XK.plain hv ok54 ?_ (hbT ())
      iterate 2 ((try (refine drvZ Tryz.func18 ?_; simp (maxSteps := 9999999) only [go_sem, boolsD])); (try ((with_reducible refine And.intro ?_ ?_) <;> (repeat' with_reducible apply And.intro) <;> try exact sd)))
      refine XK.gplain 3 false true (fun _ => hce) ok46 ?_ (hbT ())
      iterate 4 ((try (refine drvZ Tryz.func18 ?_; simp (maxSteps := 9999999) only [go_sem, boolsD, hb1, hb2, jflat, takeB, boolsC_len])); (try ((with_reducible refine And.intro ?_ ?_) <;> (repeat' with_reducible apply And.intro) <;> try exact sd)))
      refine Go.loopQ (fun L : List Bool => [(2, .c (.ptr 0 0)), (4, .c (.ptr 64 0)), (6, .c (.msl 65 1 0 L.length))])
        (fun L => [(0, some (Pg.cells ⟨vs, ar, bd⟩)), (64, some [.v (.slice none 0 0), .v (.slice none 0 0), .v (.slice none 0 0)]), (65, some (boolsC L))]) 4096 U outs ?_ ws (fun j => if j = 65 then some 960 else some j) [] _ hst ?_
      · intro L hUL again
        have hLl := hul L hUL
        have h1 := hnd L hLl
        have h2 := hnl L
        have h3 := joinS L (needL vs.length 5 bd L).2 (by omega) h2
        have h4 := hun L hUL
        have h5 := hus L hUL
        have h6 := hug L hUL
        generalize hN : needL vs.length 5 bd L = N at *
        obtain ⟨nb, L'⟩ := N
        simp only at h1 h2 h3 h4 h5 h6
        refine drvL Tryz.func18 ?_
        simp (maxSteps := 9999999) only [go_sem, jflat, takeB, boolsC_len]
        iterate 2 ((try (refine drvZ Tryz.func18 ?_; simp (maxSteps := 9999999) only [go_sem, jflat, takeB, boolsC_len])); (try ((with_reducible refine And.intro ?_ ?_) <;> (repeat' with_reducible apply And.intro) <;> try exact sd)))
        refine XK.callG [65] h1 ok55 (hhp_one (by simp [hOf, upd, boolsC_ren])) (hbT ()) (fun d h' ⟨_, e⟩ => by subst e; simp) ?_
        rintro _ _ ⟨rfl, rfl⟩ _
        iterate 2 ((try (refine drvZ Tryz.func18 ?_; simp (maxSteps := 9999999) only [go_sem, boolsC_ren, takeB, boolsC_len])); (try ((with_reducible refine And.intro ?_ ?_) <;> (repeat' with_reducible apply And.intro) <;> try exact sd)))
        refine XK.callG [4224, 65] h3 ok56 (hhp2 (by simp [hOf, upd, boolsC_ren]) (by simp [hOf, upd, boolsC_ren])) (hbT ()) (fun d h' ⟨_, e⟩ => by subst e; simp) ?_
        rintro _ _ ⟨rfl, rfl⟩ _
        cases hj : (jnA L L' L.length).1 with
        | true =>
          iterate 3 ((try (refine drvZ Tryz.func18 ?_; simp (maxSteps := 9999999) only [go_sem, boolsC_ren, takeB, boolsC_len])); (try ((with_reducible refine And.intro ?_ ?_) <;> (repeat' with_reducible apply And.intro) <;> try exact sd)))
          refine again L' some [] _ h4 (h6 hj) ?_
          simp (maxSteps := 9999999) only [go_sem, TmOK, DM, DMs, CM, CMs, forall_eq, exists_eq_left, Mq, HpOK, LowOK, h2]
          simp
          exact CMs.kf (boolsC_kf _)
        | false =>
          obtain ⟨rfl, hle⟩ := h5 hj
          have h7 := hcu L' hLl
          refine XK.freezeAll 65 1 (boolsC L') (L'.map fun b => [BC b]) ?_ (by simp [appUp, upsFrom, rkey, wkey, hOf, upd, boolsC_ren]) (wkL_bools L') (fun x hx => by obtain ⟨b, _, rfl⟩ := List.mem_map.1 hx; rfl) (fun x hx c hc => by obtain ⟨b, _, rfl⟩ := List.mem_map.1 hx; rw [List.mem_singleton.1 hc]; rfl)
          iterate 5 ((try (refine drvZ Tryz.func18 ?_; simp (maxSteps := 9999999) only [go_sem, boolsC_ren, takeB, boolsC_len, List.length_map, beqR, flat_I'])); (try ((with_reducible refine And.intro ?_ ?_) <;> (repeat' with_reducible apply And.intro) <;> try exact sd)))
          refine XK.plain h7 ok57 ?_ (hbT ()) (fun _ => by kernel_rfl)
          iterate 4 ((try (refine drvZ Tryz.func18 ?_; simp (maxSteps := 9999999) only [go_sem, boolsC_ren, takeB, boolsC_len, List.length_map, flat_I'])); (try ((with_reducible refine And.intro ?_ ?_) <;> (repeat' with_reducible apply And.intro) <;> try exact sd)))
          refine RetOb.ofQ (fun _ => none) [5120, 5376] (.tup [.agg (Pg.cells (slP ⟨vs, ar, bd⟩ (gL L'))), DB true]) [] ?_ (hfin L' hle) (by simp)
          simp [enumL, DM, DMs, CM, CMs, HpOK, LowOK, Pg.cells, slP, isI, hOf, upd, flat_I, kf]
          rw [show gL L' = fun i => L'[i]?.getD false from funext fun i => by simp [gL]]
      · simp (maxSteps := 9999999) only [go_sem, TmOK, DM, DMs, CM, CMs, forall_eq, exists_eq_left, Mq, HpOK, LowOK, boolsD, BC]
        try simp
        try exact CMs.kf (boolsC_kf _)
    · have hb1 : ((ws.length : Int) != ((p.vars.length + p.arrays.length : Nat) : Int)) = true := by simp only [bne_iff_ne]; omega
      have hb2 : ((ws.length : Int) = ((p.vars.length + p.arrays.length : Nat) : Int)) = False := eq_false (by omega)
      obtain ⟨vs, ar, bd⟩ := p
      simp only at hb1 hb2 hce
      refine dcZ Tryz.func18 ?_
      simp (maxSteps := 9999999) only [go_sem]
      ((try (refine drvZ Tryz.func18 ?_; simp (maxSteps := 9999999) only [go_sem])); (try ((with_reducible refine And.intro ?_ ?_) <;> (repeat' with_reducible apply And.intro) <;> try exact sd)))
      refine XK.plain hv ok54 ?_ (hbT ())
      iterate 2 ((try (refine drvZ Tryz.func18 ?_; simp (maxSteps := 9999999) only [go_sem, boolsD, BC])); (try ((with_reducible refine And.intro ?_ ?_) <;> (repeat' with_reducible apply And.intro) <;> try exact sd)))
      refine XK.gplain 3 false true (fun _ => hce) ok46 ?_ (hbT ())
      generalize ((vs.length + ar.length : Nat) : Int) = cc at *
      iterate 4 ((try (refine drvZ Tryz.func18 ?_; simp (maxSteps := 9999999) only [go_sem, boolsD, BC, hb1, hb2])); (try ((with_reducible refine And.intro ?_ ?_) <;> (repeat' with_reducible apply And.intro) <;> try exact sd)))
      exact RetOb.ofQ (fun _ => none) [] (.tup [.agg (Pg.cells ⟨[], [], []⟩), DB false]) [] (by simp [enumL, DM, DMs, CM, CMs, HpOK, LowOK, Pg.cells, isI, St1.cellsL]) (by rw [← hR]; exact ⟨rfl, .inr ⟨by rw [hq]; simpa using hwl, rfl⟩⟩) (by simp)
end Go.Proofs.YtmagbjbanpgmhaaGreat.CtD

namespace Go.Proofs.YtmagbjbanpgmhaaGreat.CtD
open Go Go.CT CtF CtR

/-- A drawn program and the cells that are wanted of it. -/
def dwR (r : D) (h : List (Option (List C))) : Prop := ∃ (p : Pg) (ws : List Bool), r = .tup [.agg p.cells, .c (boolsD ws)] ∧ SmP p ∧ ws.length ≤ 100 ∧ h = []
theorem boolsC_snoc (ws : List Bool) (b : Bool) : boolsC (ws ++ [b]) = boolsC ws ++ [.v (.bool b)] := by simp [boolsC, BC]

theorem drawSliceProgram (bs : List Int) (hb : Fits .u8 bs) (hl : bs.length ≤ mx) : DC Tryz.prog 16 [bytesD bs] [] dwR := by
  have hmx := mx_eq
  have hop := l17Open bs hl
  have hb' := fits_take hb 2000
  have hl' : (bs.take 2000).length ≤ 2000 := by rw [List.length_take]; omega
  generalize hR : dwR = R
  generalize hbs : bs.take 2000 = b2 at *
  unfold bytesD
  unfold bytesD at hop
  refine dcZ Tryz.func16 ?_
  simp (maxSteps := 9999999) only [go_sem]
  ((try (refine drvZ Tryz.func16 ?_; simp (maxSteps := 9999999) only [go_sem])); (try ((with_reducible refine And.intro ?_ ?_) <;> (repeat' with_reducible apply And.intro) <;> try exact sd)))
  refine XK.callG [] hop ok31 (fun i' x h => by simp at h) (hbT ()) (fun d h' ⟨_, e⟩ => by subst e; simp) ?_
  rintro _ _ ⟨rfl, rfl⟩ _
  iterate 2 ((try (refine drvZ Tryz.func16 ?_; simp (maxSteps := 9999999) only [go_sem, renCs_rdr])); (try ((with_reducible refine And.intro ?_ ?_) <;> (repeat' with_reducible apply And.intro) <;> try exact sd)))
  have hpr := l2Program b2 0 hb' hl' (by omega)
  refine XK.callG [192] hpr ok45 (hhp_one (by simp [upd, renCs_rdr])) (hbT ()) (fun d h' ⟨_, _, _, _, _, _, e⟩ => by subst e; simp) ?_
  rintro _ _ ⟨p, rfl, hp, n1, hn1, hn2, rfl⟩ _
  have hln := prog_len hp.ok
  have hmu := fun n h => l2Mutate b2 n p hb' hl' h hp
  have hce := cellsS p (by omega) (by omega)
  obtain ⟨vs, ar, bd⟩ := p
  have hln : 1 ≤ vs.length ∧ vs.length ≤ 12 ∧ ar.length ≤ 2 := hln
  simp only at hce
  obtain ⟨c, hc⟩ : ∃ c, c = vs.length + ar.length := ⟨_, rfl⟩
  rw [← hc] at hce
  iterate 3 ((try (refine drvZ Tryz.func16 ?_; simp (maxSteps := 9999999) only [go_sem, renCs_rdr])); (try ((with_reducible refine And.intro ?_ ?_) <;> (repeat' with_reducible apply And.intro) <;> try exact sd)))
  refine XK.plain hce ok46 ?_ (hbT ())
  iterate 2 ((try (refine drvZ Tryz.func16 ?_; simp (maxSteps := 9999999) only [go_sem, renCs_rdr])); (try ((with_reducible refine And.intro ?_ ?_) <;> (repeat' with_reducible apply And.intro) <;> try exact sd)))
  refine Go.loopQ (fun x : Nat × Nat × List Bool => [(2, .c (.ptr 0 0)), (4, .c (.ptr 192 0)), (5, .c (.ptr 448 0)), (6, .c (.msl 67 1 0 x.2.2.length)), (7, DI .i64 x.1)])
    (fun x => [(0, some [.v (.slice none 0 0), .v (.slice none 0 0), .v (.slice none 0 0)]), (192, some (rdr b2 x.2.1)), (448, some (Pg.cells ⟨vs, ar, bd⟩)), (67, some (boolsC x.2.2))]) 4096
    (fun x => x.2.2.length + x.1 = c ∧ x.2.1 ≤ 2000000 + x.2.2.length) (fun x => x.1) ?_ (c, n1, []) (fun j => if j = 67 then some 576 else some j) [] _ ⟨by simp, by simp; omega⟩ ?_
  · rintro ⟨i, n, ws⟩ ⟨hi, hn⟩ again
    simp only at hi hn
    have hbl := boolsC_len ws
    cases i with
    | succ i =>
      have hpos : ((0 : Int) < ((i : Int) + 1)) = True := eq_true (by omega)
      have hpk := pick b2 n 3 hb' hl' (by omega) (by simp only [InK]; omega)
      refine drvL Tryz.func16 ?_
      simp (maxSteps := 9999999) only [go_sem, hpos]
      ((try (refine drvZ Tryz.func16 ?_; simp (maxSteps := 9999999) only [go_sem, hpos])); (try ((with_reducible refine And.intro ?_ ?_) <;> (repeat' with_reducible apply And.intro) <;> try exact sd)))
      refine XK.callG [192] hpk ok47 (hhp_one (by simp [hOf, upd, renCs_rdr])) (hbT ()) (fun d h' ⟨v, _, _, e⟩ => by subst e; simp) ?_
      rintro _ _ ⟨v, rfl, hpv, rfl⟩ _
      by_cases hv : v = 0
      · subst hv
        iterate 3 ((try (refine drvZ Tryz.func16 ?_; simp (maxSteps := 9999999) only [go_sem, hpos, renCs_rdr, hbl])); (try ((with_reducible refine And.intro ?_ ?_) <;> (repeat' with_reducible apply And.intro) <;> try exact sd)))
        refine again (i, n + 1, ws ++ [true]) (fun j => if j = 67 then some 4544 else some j) [] _ ⟨by simp; omega, by simp; omega⟩ (by simp) ?_
        simp (maxSteps := 9999999) only [go_sem, TmOK, DM, DMs, CM, CMs, forall_eq, exists_eq_left, Mq, HpOK, LowOK, boolsC_snoc, List.length_append]
        simp
        first | exact ⟨CMs.kf (rdr_kf _ _), CMs.kf (kf_app (boolsC_kf _) (by simp [kf]))⟩ | exact ⟨CMs.kf (kf_app (boolsC_kf _) (by simp [kf])), CMs.kf (rdr_kf _ _)⟩
      · have e1 : (v == 0) = false := by simp [hv]
        iterate 3 ((try (refine drvZ Tryz.func16 ?_; simp (maxSteps := 9999999) only [go_sem, hpos, renCs_rdr, e1, hv, hbl])); (try ((with_reducible refine And.intro ?_ ?_) <;> (repeat' with_reducible apply And.intro) <;> try exact sd)))
        refine again (i, n + 1, ws ++ [false]) (fun j => if j = 67 then some 4544 else some j) [] _ ⟨by simp; omega, by simp; omega⟩ (by simp) ?_
        simp (maxSteps := 9999999) only [go_sem, TmOK, DM, DMs, CM, CMs, forall_eq, exists_eq_left, Mq, HpOK, LowOK, boolsC_snoc, List.length_append]
        simp
        first | exact ⟨CMs.kf (rdr_kf _ _), CMs.kf (kf_app (boolsC_kf _) (by simp [kf]))⟩ | exact ⟨CMs.kf (kf_app (boolsC_kf _) (by simp [kf])), CMs.kf (rdr_kf _ _)⟩
    | zero =>
      have hz : ((0 : Int) < 0) = False := eq_false (by omega)
      have hpk := pick b2 n 30 hb' hl' (by omega) (by simp only [InK]; omega)
      refine drvL Tryz.func16 ?_
      simp (maxSteps := 9999999) only [go_sem, Int.natCast_zero, hz]
      iterate 2 ((try (refine drvZ Tryz.func16 ?_; simp (maxSteps := 9999999) only [go_sem, Int.natCast_zero, hz])); (try ((with_reducible refine And.intro ?_ ?_) <;> (repeat' with_reducible apply And.intro) <;> try exact sd)))
      refine XK.callG [192] hpk ok47 (hhp_one (by simp [hOf, upd, renCs_rdr])) (hbT ()) (fun d h' ⟨v, _, _, e⟩ => by subst e; simp) ?_
      rintro _ _ ⟨v, rfl, hpv, rfl⟩ _
      have hmu := hmu (n + 1) (by omega)
      by_cases hv : v = 0
      · subst hv
        iterate 3 ((try (refine drvZ Tryz.func16 ?_; simp (maxSteps := 9999999) only [go_sem, renCs_rdr, hbl])); (try ((with_reducible refine And.intro ?_ ?_) <;> (repeat' with_reducible apply And.intro) <;> try exact sd)))
        refine XK.callG [192] hmu ok48 (hhp_one (by simp [hOf, upd, renCs_rdr])) (hbT ()) (fun d h' ⟨_, _, _, _, _, _, e⟩ => by subst e; simp) ?_
        rintro _ _ ⟨p2, rfl, hp2, n4, hn7, hn8, rfl⟩ _
        obtain ⟨vs2, ar2, bd2⟩ := p2
        iterate 3 ((try (refine drvZ Tryz.func16 ?_; simp (maxSteps := 9999999) only [go_sem, renCs_rdr])); (try ((with_reducible refine And.intro ?_ ?_) <;> (repeat' with_reducible apply And.intro) <;> try exact sd)))
        refine RetOb.ofQ (fun _ => none) [4544] (.tup [.agg (Pg.cells ⟨vs2, ar2, bd2⟩), .c (boolsD (ws ++ [true]))]) [] ?_ (by rw [← hR]; exact ⟨_, _, rfl, hp2, by simp; omega, rfl⟩) (by simp)
        simp [enumL, DM, DMs, CM, CMs, HpOK, LowOK, hOf, Pg.cells, isI, upd, boolsD, kf]
        exact ⟨(jflat ws).symm, fun x hx => by rcases hx with (⟨_, rfl⟩ | ⟨_, rfl⟩) | rfl <;> rfl, fun x hx c hc => by rcases hx with (⟨_, rfl⟩ | ⟨_, rfl⟩) | rfl <;> (rw [List.mem_singleton.1 hc])⟩
      · have e1 : (v == 0) = false := by simp [hv]
        iterate 3 ((try (refine drvZ Tryz.func16 ?_; simp (maxSteps := 9999999) only [go_sem, renCs_rdr, e1, hv, hbl])); (try ((with_reducible refine And.intro ?_ ?_) <;> (repeat' with_reducible apply And.intro) <;> try exact sd)))
        refine XK.callG [192] hmu ok48 (hhp_one (by simp [hOf, upd, renCs_rdr])) (hbT ()) (fun d h' ⟨_, _, _, _, _, _, e⟩ => by subst e; simp) ?_
        rintro _ _ ⟨p2, rfl, hp2, n4, hn7, hn8, rfl⟩ _
        obtain ⟨vs2, ar2, bd2⟩ := p2
        iterate 3 ((try (refine drvZ Tryz.func16 ?_; simp (maxSteps := 9999999) only [go_sem, renCs_rdr])); (try ((with_reducible refine And.intro ?_ ?_) <;> (repeat' with_reducible apply And.intro) <;> try exact sd)))
        refine RetOb.ofQ (fun _ => none) [67] (.tup [.agg (Pg.cells ⟨vs2, ar2, bd2⟩), .c (boolsD ws)]) [] ?_ (by rw [← hR]; exact ⟨_, _, rfl, hp2, by omega, rfl⟩) (by simp)
        simp [enumL, DM, DMs, CM, CMs, HpOK, LowOK, hOf, Pg.cells, isI, upd, boolsD, kf]
        exact ⟨(jflat ws).symm, fun x hx => by rcases hx with ⟨_, rfl⟩ | ⟨_, rfl⟩ <;> rfl, fun x hx c hc => by rcases hx with ⟨_, rfl⟩ | ⟨_, rfl⟩ <;> (rw [List.mem_singleton.1 hc])⟩
  · simp (maxSteps := 9999999) only [go_sem, TmOK, DM, DMs, CM, CMs, forall_eq, exists_eq_left, Mq, HpOK, LowOK, renCs_rdr]
    simp [boolsC, CMs]
    exact CMs.kf (rdr_kf _ _)
end Go.Proofs.YtmagbjbanpgmhaaGreat.CtD

namespace Go.Proofs.YtmagbjbanpgmhaaGreat.CtD
open Go Go.CT CtF CtR

theorem eqFE (ks : List Ex) (hl : ks.length ≤ 1000) (h : ∀ e ∈ ks, DC Tryz.prog 104 [.agg e.cells, .agg e.cells] [] (fun r h => r = DB true ∧ h = [])) :
    DC Tryz.prog 133 [.c (.isl 3 (Ex.cellsL ks)), .c (.isl 3 (Ex.cellsL ks)), .c (.clo 104 [])] [] (fun r h => r = DB true ∧ h = []) := by
  have hmx := mx_eq
  generalize hR : (fun (r : D) (h : List (Option (List C))) => r = DB true ∧ h = []) = R at h ⊢
  have hb : ((ks.length : Int) != ks.length) = false := by simp
  have he : ((ks.length : Int) = ks.length) = True := eq_true rfl
  refine dcZ Tryz.func133 ?_
  simp (maxSteps := 9999999) only [go_sem, hb, he]
  iterate 2 ((try (refine drvZ Tryz.func133 ?_; simp (maxSteps := 9999999) only [go_sem, hb, he])); (try ((with_reducible refine And.intro ?_ ?_) <;> (repeat' with_reducible apply And.intro) <;> try exact sd)))
  refine Go.loopQ (fun i : Nat => [(1, .c (.isl 3 (Ex.cellsL ks))), (2, .c (.clo 104 [])), (15, .c (.isl 3 (Ex.cellsL ks))), (16, DI .i64 ks.length), (17, DI .i64 i)]) (fun _ => [])
    4096 (fun i => i ≤ ks.length) (fun i => ks.length - i) ?_ 0 some [] _ (Nat.zero_le _) ?_
  · intro i hi again
    rcases Nat.lt_or_ge i ks.length with hlt | hge
    · obtain ⟨⟨k', v', ks'⟩, hx⟩ : ∃ x, ks[i]? = some x := ⟨ks[i], by simp [hlt]⟩
      have hc := h _ (List.mem_of_getElem? hx)
      rw [← hR] at hc
      refine drvL Tryz.func133 ?_
      simp (maxSteps := 9999999) only [go_sem, hx, hlt]
      iterate 3 ((try (refine drvZ Tryz.func133 ?_; simp (maxSteps := 9999999) only [go_sem, hx, hlt])); (try ((with_reducible refine And.intro ?_ ?_) <;> (repeat' with_reducible apply And.intro) <;> try exact sd)))
      refine XK.plain hc ok104 ?_ (hbT ())
      iterate 3 ((try (refine drvZ Tryz.func133 ?_; simp (maxSteps := 9999999) only [go_sem, hx, hlt])); (try ((with_reducible refine And.intro ?_ ?_) <;> (repeat' with_reducible apply And.intro) <;> try exact sd)))
      refine again (i + 1) some [] _ hlt (by omega) ?_
      simp (maxSteps := 9999999) only [go_sem, TmOK, DM, DMs, CM, CMs, forall_eq, exists_eq_left, Mq, HpOK, LowOK]
      try simp
    · have hn : ¬ i < ks.length := by omega
      refine drvL Tryz.func133 ?_
      simp (maxSteps := 9999999) only [go_sem, hn]
      iterate 2 ((try (refine drvZ Tryz.func133 ?_; simp (maxSteps := 9999999) only [go_sem, hn])); (try ((with_reducible refine And.intro ?_ ?_) <;> (repeat' with_reducible apply And.intro) <;> try exact sd)))
      exact RetOb.plain (d := DB true) (by rw [← hR]; exact ⟨rfl, rfl⟩) rfl
  · simp (maxSteps := 9999999) only [go_sem, TmOK, DM, DMs, CM, CMs, forall_eq, exists_eq_left, Mq, HpOK, LowOK]
    try simp

theorem exprSame (e : Ex) (he : SmE e) : DC Tryz.prog 104 [.agg e.cells, .agg e.cells] [] (fun r h => r = DB true ∧ h = []) := by
  have hmx := mx_eq
  induction he with
  | mk k v ks h3 hs ih =>
    have hq := eqFE ks (by omega) ih
    have e1 : (k == k) = true := by simp
    have e2 : (v == v) = true := by simp
    refine dcZ Tryz.func104 ?_
    simp (maxSteps := 9999999) only [go_sem, e1, e2]
    iterate 2 ((try (refine drvZ Tryz.func104 ?_; simp (maxSteps := 9999999) only [go_sem, e1, e2])); (try ((with_reducible refine And.intro ?_ ?_) <;> (repeat' with_reducible apply And.intro) <;> try exact sd)))
    refine XK.gplain 12 true true (fun _ => hq) ok133 ?_ (hbT ())
    iterate 2 ((try (refine drvZ Tryz.func104 ?_; simp (maxSteps := 9999999) only [go_sem])); (try ((with_reducible refine And.intro ?_ ?_) <;> (repeat' with_reducible apply And.intro) <;> try exact sd)))
    exact RetOb.plain (d := DB true) ⟨rfl, rfl⟩ rfl

theorem eqFS (l : List St1) (hl : l.length ≤ 1000) (h : ∀ s ∈ l, DC Tryz.prog 103 [.agg s.cells, .agg s.cells] [] (fun r h => r = DB true ∧ h = [])) :
    DC Tryz.prog 102 [.c (.isl 11 (St1.cellsL l)), .c (.isl 11 (St1.cellsL l)), .c (.clo 103 [])] [] (fun r h => r = DB true ∧ h = []) := by
  have hmx := mx_eq
  generalize hR : (fun (r : D) (h : List (Option (List C))) => r = DB true ∧ h = []) = R at h ⊢
  have hb : ((l.length : Int) != l.length) = false := by simp
  have he : ((l.length : Int) = l.length) = True := eq_true rfl
  refine dcZ Tryz.func102 ?_
  simp (maxSteps := 9999999) only [go_sem, hb, he]
  iterate 2 ((try (refine drvZ Tryz.func102 ?_; simp (maxSteps := 9999999) only [go_sem, hb, he])); (try ((with_reducible refine And.intro ?_ ?_) <;> (repeat' with_reducible apply And.intro) <;> try exact sd)))
  refine Go.loopQ (fun i : Nat => [(1, .c (.isl 11 (St1.cellsL l))), (2, .c (.clo 103 [])), (15, .c (.isl 11 (St1.cellsL l))), (16, DI .i64 l.length), (17, DI .i64 i)]) (fun _ => [])
    4096 (fun i => i ≤ l.length) (fun i => l.length - i) ?_ 0 some [] _ (Nat.zero_le _) ?_
  · intro i hi again
    rcases Nat.lt_or_ge i l.length with hlt | hge
    · obtain ⟨⟨k, t, ⟨ik, iv, iks⟩, ⟨vk, vv, vks⟩, c, b, e⟩, hx⟩ : ∃ x, l[i]? = some x := ⟨l[i], by simp [hlt]⟩
      have hc := h _ (List.mem_of_getElem? hx)
      rw [← hR] at hc
      refine drvL Tryz.func102 ?_
      simp (maxSteps := 9999999) only [go_sem, hx, hlt]
      iterate 3 ((try (refine drvZ Tryz.func102 ?_; simp (maxSteps := 9999999) only [go_sem, hx, hlt])); (try ((with_reducible refine And.intro ?_ ?_) <;> (repeat' with_reducible apply And.intro) <;> try exact sd)))
      refine XK.plain hc ok103 ?_ (hbT ())
      iterate 3 ((try (refine drvZ Tryz.func102 ?_; simp (maxSteps := 9999999) only [go_sem, hx, hlt])); (try ((with_reducible refine And.intro ?_ ?_) <;> (repeat' with_reducible apply And.intro) <;> try exact sd)))
      refine again (i + 1) some [] _ hlt (by omega) ?_
      simp (maxSteps := 9999999) only [go_sem, TmOK, DM, DMs, CM, CMs, forall_eq, exists_eq_left, Mq, HpOK, LowOK, List.cons_append, List.nil_append]
      try simp
    · have hn : ¬ i < l.length := by omega
      refine drvL Tryz.func102 ?_
      simp (maxSteps := 9999999) only [go_sem, hn]
      iterate 2 ((try (refine drvZ Tryz.func102 ?_; simp (maxSteps := 9999999) only [go_sem, hn])); (try ((with_reducible refine And.intro ?_ ?_) <;> (repeat' with_reducible apply And.intro) <;> try exact sd)))
      exact RetOb.plain (d := DB true) (by rw [← hR]; exact ⟨rfl, rfl⟩) rfl
  · simp (maxSteps := 9999999) only [go_sem, TmOK, DM, DMs, CM, CMs, forall_eq, exists_eq_left, Mq, HpOK, LowOK]
    try simp

theorem sameStmts (l : List St1) (hl : l.length ≤ 1000) (h : ∀ s ∈ l, DC Tryz.prog 103 [.agg s.cells, .agg s.cells] [] (fun r h => r = DB true ∧ h = [])) :
    DC Tryz.prog 59 [.c (.isl 11 (St1.cellsL l)), .c (.isl 11 (St1.cellsL l))] [] (fun r h => r = DB true ∧ h = []) := by
  refine dcZ Tryz.func59 ?_
  simp (maxSteps := 9999999) only [go_sem]
  ((try (refine drvZ Tryz.func59 ?_; simp (maxSteps := 9999999) only [go_sem])); (try ((with_reducible refine And.intro ?_ ?_) <;> (repeat' with_reducible apply And.intro) <;> try exact sd)))
  refine XK.plain (eqFS l hl h) ok102 ?_ (hbT ())
  ((try (refine drvZ Tryz.func59 ?_; simp (maxSteps := 9999999) only [go_sem])); (try ((with_reducible refine And.intro ?_ ?_) <;> (repeat' with_reducible apply And.intro) <;> try exact sd)))
  exact RetOb.plain (d := DB true) ⟨rfl, rfl⟩ rfl

theorem sameStmt (p : Pg) : ∀ (d : Nat) (s : St1), stmtOK p d s = true → tsize d s ≤ 1000 → DC Tryz.prog 103 [.agg s.cells, .agg s.cells] [] (fun r h => r = DB true ∧ h = [])
  | 0, s, h, _ => by simp [stmtOK] at h
  | d + 1, ⟨k, t, ⟨ik, iv, iks⟩, ⟨vk, vv, vks⟩, c, b, e⟩, h, hsz => by
    have hmx := mx_eq
    have hex := exprs_of h
    have hbe := stmtOK_succ h
    have hs1 := lsize_subs d b
    have hs2 := lsize_subs d e
    have hz : tsize (d + 1) (.mk k t (.mk ik iv iks) (.mk vk vv vks) c b e) = 1 + (b.map (tsize d)).sum + (e.map (tsize d)).sum := rfl
    have hlen : ∀ l : List St1, (∀ s ∈ l, stmtOK p d s = true) → l.length ≤ (l.map (tsize d)).sum := fun l hl => by
      induction l with
      | nil => simp
      | cons a r ih =>
        have := ih (fun s hs => hl s (by simp [hs]))
        have h1 : 1 ≤ tsize d a := by
          cases d with
          | zero => have := hl a (by simp); simp [stmtOK] at this
          | succ d => obtain ⟨k, t, ix, v, c, b, e⟩ := a; simp only [tsize]; omega
        simp only [List.length_cons, List.map_cons, List.sum_cons]; omega
    have hmem : ∀ (l : List St1), (∀ s ∈ l, tsize d s ≤ (l.map (tsize d)).sum) := fun l => by
      induction l with
      | nil => simp
      | cons a r ih =>
        intro s hs
        simp only [List.map_cons, List.sum_cons]
        rcases List.mem_cons.1 hs with rfl | hs
        · omega
        · have := ih s hs; omega
    have hb := sameStmts b (by have := hlen b hbe.2.1; omega) (fun s hs => sameStmt p d s (hbe.2.1 s hs) (by have := hmem b s hs; omega))
    have he := sameStmts e (by have := hlen e hbe.2.2; omega) (fun s hs => sameStmt p d s (hbe.2.2 s hs) (by have := hmem e s hs; omega))
    have x1 := exprSame _ (SmE_of hex.1)
    have x2 := exprSame _ (SmE_of hex.2)
    have e1 : (k == k) = true := by simp
    have e2 : (t == t) = true := by simp
    have e3 : (c == c) = true := by simp
    refine dcZ Tryz.func103 ?_
    simp (maxSteps := 9999999) only [go_sem, e1, e2, e3]
    iterate 2 ((try (refine drvZ Tryz.func103 ?_; simp (maxSteps := 9999999) only [go_sem, e1, e2, e3])); (try ((with_reducible refine And.intro ?_ ?_) <;> (repeat' with_reducible apply And.intro) <;> try exact sd)))
    refine XK.gplain 12 true true (fun _ => x1) ok104 ?_ (hbT ())
    iterate 2 ((try (refine drvZ Tryz.func103 ?_; simp (maxSteps := 9999999) only [go_sem, e1, e2, e3])); (try ((with_reducible refine And.intro ?_ ?_) <;> (repeat' with_reducible apply And.intro) <;> try exact sd)))
    refine XK.gplain 19 true true (fun _ => x2) ok104 ?_ (hbT ())
    iterate 3 ((try (refine drvZ Tryz.func103 ?_; simp (maxSteps := 9999999) only [go_sem, e1, e2, e3])); (try ((with_reducible refine And.intro ?_ ?_) <;> (repeat' with_reducible apply And.intro) <;> try exact sd)))
    refine XK.gplain 33 true true (fun _ => hb) ok59 ?_ (hbT ())
    iterate 2 ((try (refine drvZ Tryz.func103 ?_; simp (maxSteps := 9999999) only [go_sem, e1, e2, e3])); (try ((with_reducible refine And.intro ?_ ?_) <;> (repeat' with_reducible apply And.intro) <;> try exact sd)))
    refine XK.gplain 40 true true (fun _ => he) ok59 ?_ (hbT ())
    iterate 2 ((try (refine drvZ Tryz.func103 ?_; simp (maxSteps := 9999999) only [go_sem, e1, e2, e3])); (try ((with_reducible refine And.intro ?_ ?_) <;> (repeat' with_reducible apply And.intro) <;> try exact sd)))
    exact RetOb.plain (d := DB true) ⟨rfl, rfl⟩ rfl

theorem programSame (p : Pg) (hl : p.vars.length ≤ mx) (hl2 : p.arrays.length ≤ mx) (hb : p.body.length ≤ 1000) (h : ∀ s ∈ p.body, DC Tryz.prog 103 [.agg s.cells, .agg s.cells] [] (fun r h => r = DB true ∧ h = [])) :
    DC Tryz.prog 19 [.agg p.cells, .agg p.cells] [] (fun r h => r = DB true ∧ h = []) := by
  have hmx := mx_eq
  have h1 := equalI p.vars p.vars hl
  have h2 := equalI p.arrays p.arrays hl2
  rw [show decide (p.vars = p.vars) = true by simp] at h1
  rw [show decide (p.arrays = p.arrays) = true by simp] at h2
  have h3 := sameStmts p.body hb h
  obtain ⟨vs, ar, bd⟩ := p
  refine dcZ Tryz.func19 ?_
  simp (maxSteps := 9999999) only [go_sem]
  ((try (refine drvZ Tryz.func19 ?_; simp (maxSteps := 9999999) only [go_sem])); (try ((with_reducible refine And.intro ?_ ?_) <;> (repeat' with_reducible apply And.intro) <;> try exact sd)))
  refine XK.plain h1 ok58 ?_ (hbT ())
  iterate 2 ((try (refine drvZ Tryz.func19 ?_; simp (maxSteps := 9999999) only [go_sem])); (try ((with_reducible refine And.intro ?_ ?_) <;> (repeat' with_reducible apply And.intro) <;> try exact sd)))
  refine XK.gplain 5 true true (fun _ => h2) ok58 ?_ (hbT ())
  iterate 2 ((try (refine drvZ Tryz.func19 ?_; simp (maxSteps := 9999999) only [go_sem])); (try ((with_reducible refine And.intro ?_ ?_) <;> (repeat' with_reducible apply And.intro) <;> try exact sd)))
  refine XK.gplain 12 true true (fun _ => h3) ok59 ?_ (hbT ())
  iterate 2 ((try (refine drvZ Tryz.func19 ?_; simp (maxSteps := 9999999) only [go_sem])); (try ((with_reducible refine And.intro ?_ ?_) <;> (repeat' with_reducible apply And.intro) <;> try exact sd)))
  exact RetOb.plain (d := DB true) ⟨rfl, rfl⟩ rfl
end Go.Proofs.YtmagbjbanpgmhaaGreat.CtD

namespace Go.Proofs.YtmagbjbanpgmhaaGreat.CtD
open Go Go.CT CtF CtR

theorem dcMono {P : Program} {F : FuncId} {args : List D} {h : List (Option (List C))} {R R' : D → List (Option (List C)) → Prop} (hD : DC P F args h R) (hR : ∀ d h', R d h' → R' d h') : DC P F args h R' :=
  fun I w s vs H hv => (hD I w s vs H hv).mono fun e w' ⟨v, I', s', d, h', he, hr, k⟩ => ⟨v, I', s', d, h', he, hR d h' hr, k⟩
theorem sameBody {p : Pg} (h : progOK p = true) : ∀ s ∈ p.body, DC Tryz.prog 103 [.agg s.cells, .agg s.cells] [] (fun r h => r = DB true ∧ h = []) := fun s hs => by
  have hb := body_of h
  refine sameStmt p 5 s (hb.1 s hs) ?_
  have : ∀ l : List St1, s ∈ l → tsize 5 s ≤ (l.map (tsize 5)).sum := fun l => by
    induction l with
    | nil => simp
    | cons a r ih =>
      intro hs
      simp only [List.map_cons, List.sum_cons]
      rcases List.mem_cons.1 hs with rfl | hs
      · omega
      · have := ih hs; omega
  have h1 := this p.body hs
  have h2 : (p.body.map (tsize 5)).sum = lsize 5 p.body := rfl
  omega

end Go.Proofs.YtmagbjbanpgmhaaGreat.CtD

namespace Go.Proofs.YtmagbjbanpgmhaaGreat.CtD
open Go Go.CT CtF CtR

/-! Plain: a slice answers as the program does. -/
structure AgM (q : Nat → Bool) (nv : Nat) (m m' : Mm) : Prop where
  lv : m.vals.length = m'.vals.length
  la : m.arrays.length = m'.arrays.length
  val : ∀ i, i < nv → q i = true → m.vals[i]? = m'.vals[i]?
  arr : ∀ j, q (nv + j) = true → m.arrays[j]? = m'.arrays[j]?
theorem AgM.refl (q : Nat → Bool) (nv : Nat) (m : Mm) : AgM q nv m m := ⟨rfl, rfl, fun _ _ _ => rfl, fun _ _ => rfl⟩
theorem len0 {l : List St1} (h : ¬ 0 < l.length) : l = [] := List.eq_nil_of_length_eq_zero (by omega)
/-- With fewer cells, a slice of a slice is the slice. -/
theorem cut_cut {p : Pg} {q q' : Nat → Bool} (hle : leB q' q) : ∀ (d : Nat) (l : List St1), (∀ s ∈ l, stmtOK p d s = true) →
    cutL q' p.vars.length d (cutL q p.vars.length d l) = cutL q' p.vars.length d l ∧ setN q' p.vars.length d (cutL q p.vars.length d l) = setN q' p.vars.length d l
  | 0, l, _ => ⟨rfl, rfl⟩
  | d + 1, l, hok => by
    have hone : ∀ s, stmtOK p (d + 1) s = true → (match cutS q p.vars.length (cutL q p.vars.length d) s with
        | none => cutS q' p.vars.length (cutL q' p.vars.length d) s = none ∧ addS q' p.vars.length (cutL q' p.vars.length d) (setN q' p.vars.length d) 0 s = 0
        | some s' => cutS q' p.vars.length (cutL q' p.vars.length d) s' = cutS q' p.vars.length (cutL q' p.vars.length d) s ∧ addS q' p.vars.length (cutL q' p.vars.length d) (setN q' p.vars.length d) 0 s' = addS q' p.vars.length (cutL q' p.vars.length d) (setN q' p.vars.length d) 0 s) := fun s hs => by
      obtain ⟨k, t, ix, v, c, b, e⟩ := s
      have hbe := stmtOK_succ hs
      by_cases h5 : k = 5
      · have ec : cutS q p.vars.length (cutL q p.vars.length d) (.mk k t ix v c b e) = some (.mk k t ix v c b e) := by simp [cutS, h5]
        rw [ec]; exact ⟨rfl, rfl⟩
      by_cases h1 : k = 1
      · cases hqt : q t.toNat with
        | true =>
          have ec : cutS q p.vars.length (cutL q p.vars.length d) (.mk k t ix v c b e) = some (.mk k t ix v c b e) := by simp [cutS, h1, hqt]
          rw [ec]; exact ⟨rfl, rfl⟩
        | false =>
          have hq2 : q' t.toNat = false := by
            cases hx : q' t.toNat with
            | false => rfl
            | true => rw [hle _ hx] at hqt; cases hqt
          have ec : cutS q p.vars.length (cutL q p.vars.length d) (.mk k t ix v c b e) = none := by simp [cutS, h1, hqt]
          have ec2 : cutS q' p.vars.length (cutL q' p.vars.length d) (.mk k t ix v c b e) = none := by simp [cutS, h1, hq2]
          rw [ec]
          refine ⟨ec2, ?_⟩
          simp only [addS]
          rw [ec2]
          simp [h1]
      by_cases h2 : k = 2
      · cases hqt : q (p.vars.length + t.toNat) with
        | true =>
          have ec : cutS q p.vars.length (cutL q p.vars.length d) (.mk k t ix v c b e) = some (.mk k t ix v c b e) := by simp [cutS, h2, hqt]
          rw [ec]; exact ⟨rfl, rfl⟩
        | false =>
          have hq2 : q' (p.vars.length + t.toNat) = false := by
            cases hx : q' (p.vars.length + t.toNat) with
            | false => rfl
            | true => rw [hle _ hx] at hqt; cases hqt
          have ec : cutS q p.vars.length (cutL q p.vars.length d) (.mk k t ix v c b e) = none := by simp [cutS, h2, hqt]
          have ec2 : cutS q' p.vars.length (cutL q' p.vars.length d) (.mk k t ix v c b e) = none := by simp [cutS, h2, hq2]
          rw [ec]
          refine ⟨ec2, ?_⟩
          simp only [addS]
          rw [ec2]
          simp [h2]
      have ib := cut_cut hle d b hbe.2.1
      have ie := cut_cut hle d e hbe.2.2
      have ecs : ∀ q (b e : List St1), cutS q p.vars.length (cutL q p.vars.length d) (.mk k t ix v c b e) = if 0 < (cutL q p.vars.length d b).length + (cutL q p.vars.length d e).length then some (.mk k t ix v c (cutL q p.vars.length d b) (cutL q p.vars.length d e)) else none := fun q b e => by simp [cutS, h5, h1, h2]
      have eas : ∀ (b e : List St1), addS q' p.vars.length (cutL q' p.vars.length d) (setN q' p.vars.length d) 0 (.mk k t ix v c b e) = if 0 < (cutL q' p.vars.length d b).length + (cutL q' p.vars.length d e).length then (setN q' p.vars.length d b ||| setN q' p.vars.length d e) ||| (occN p.vars.length 5 v ||| occN p.vars.length 5 ix) else setN q' p.vars.length d b ||| setN q' p.vars.length d e := fun b e => by
        simp only [addS, ecs, show ¬ (k = 5 ∨ k = 1 ∨ k = 2) by omega, if_false, Nat.zero_or]
        split <;> simp
      rw [ecs q b e]
      by_cases hp : 0 < (cutL q p.vars.length d b).length + (cutL q p.vars.length d e).length
      · rw [if_pos hp]
        simp only [ecs, eas, ib.1, ib.2, ie.1, ie.2, and_self]
      · rw [if_neg hp]
        have hb0 := len0 (show ¬ 0 < (cutL q p.vars.length d b).length by omega)
        have he0 := len0 (show ¬ 0 < (cutL q p.vars.length d e).length by omega)
        rw [hb0] at ib
        rw [he0] at ie
        have z1 : setN q' p.vars.length d [] = 0 := by cases d <;> simp [setN]
        simp only [ecs, eas, ← ib.1, ← ib.2, ← ie.1, ← ie.2, cutL_nil, z1]
        simp
    have gen : ∀ (l : List St1), (∀ s ∈ l, stmtOK p (d + 1) s = true) → ∀ a, (l.filterMap (cutS q p.vars.length (cutL q p.vars.length d))).filterMap (cutS q' p.vars.length (cutL q' p.vars.length d)) = l.filterMap (cutS q' p.vars.length (cutL q' p.vars.length d)) ∧
        (l.filterMap (cutS q p.vars.length (cutL q p.vars.length d))).foldl (addS q' p.vars.length (cutL q' p.vars.length d) (setN q' p.vars.length d)) a = l.foldl (addS q' p.vars.length (cutL q' p.vars.length d) (setN q' p.vars.length d)) a := fun l => by
      induction l with
      | nil => intro _ a; exact ⟨rfl, rfl⟩
      | cons s r ih =>
        intro hok a
        have h1 := hone s (hok s (by simp))
        have ih := ih fun x hx => hok x (by simp [hx])
        rw [List.filterMap_cons]
        cases hc : cutS q p.vars.length (cutL q p.vars.length d) s with
        | none =>
          rw [hc] at h1
          simp only at h1
          simp only [List.filterMap_cons, List.foldl_cons, h1.1]
          rw [addS_or, h1.2, Nat.or_zero]
          exact ih a
        | some s' =>
          rw [hc] at h1
          simp only at h1
          simp only [List.filterMap_cons, List.foldl_cons, h1.1]
          rw [addS_or _ _ _ _ a s', addS_or _ _ _ _ a s, h1.2]
          refine ⟨?_, (ih _).2⟩
          rw [(ih 0).1]
    simp only [cutL, setN]
    exact gen l hok 0
/-- The least closed set of a program is the least closed set of its slice. -/
theorem Least.slice {p : Pg} {ws : List Bool} {q : Nat → Bool} (hok : ∀ s ∈ p.body, stmtOK p 5 s = true) (h : Least p ws q) : Least (slP p q) ws q := by
  refine ⟨h.want, ?_, fun q' h1 h2 i hi => ?_⟩
  · have := (cut_cut (q := q) (q' := q) (fun i h => h) 5 p.body hok).2
    simp only [slP]
    rw [this]
    exact h.closed
  · have hle : leB (fun i => q' i && q i) q := fun i h => by simp only [Bool.and_eq_true] at h; exact h.2
    have hle' : leB (fun i => q' i && q i) q' := fun i h => by simp only [Bool.and_eq_true] at h; exact h.1
    have e := (cut_cut hle 5 p.body hok).2
    simp only [slP] at h2
    have m1 := (cut_mono p.vars.length hle' 5 (cutL q p.vars.length 5 p.body)).2 q' h2
    rw [e] at m1
    have m2 := (cut_mono p.vars.length hle 5 p.body).2 q h.closed
    have := h.least (fun i => q' i && q i) (fun i hw => by simp only [Bool.and_eq_true]; exact ⟨h1 i hw, h.want i hw⟩) (fun i hb => by simp only [Bool.and_eq_true]; exact ⟨m1 i hb, m2 i hb⟩) i hi
    simp only [Bool.and_eq_true] at this
    exact this.1
end Go.Proofs.YtmagbjbanpgmhaaGreat.CtD
