/- For every list of bytes, the Go function FnSliceProgram returns true, and its arguments read afterwards as before: the statement FnSliceProgramSaid. -/
import Derived.Test.YtclgjiffpijgmaaRows
import Derived.WalkKit
import Derived.ProofKit
import Derived.OpenShut
import Derived.ShutString
import Derived.ChangeOld
import Derived.Below
import Derived.SizedLaws
import Derived.Test.YtclgjiffpijgmaaFacts
import Derived.Test.YtclgjiffpijgmaaAc
import Derived.Test.YtclgjiffpijgmaaAd
import Derived.Test.YtclgjiffpijgmaaAe
import Derived.Test.YtclgjiffpijgmaaAf
import Derived.Test.YtclgjiffpijgmaaAg
import Derived.Test.YtclgjiffpijgmaaAh
set_option linter.unusedVariables false
set_option linter.unusedSimpArgs false
namespace Go.Proofs.Ytclgjiffpijgmaa.CtD
open Go Go.CT CtF CtR

theorem wkL_bools (L : List Bool) : wkL (L.map fun b => [BC b]).flatten (boolsC L) := by
  rw [boolsC_flat]
  induction L with
  | nil => simp [boolsC, wkL]
  | cons a r ih => simp only [boolsC, List.map_cons] at ih ⊢; simp [wkL, ih]
theorem takeB (L : List Bool) : List.take L.length (boolsC L) = boolsC L := List.take_of_length_le (by rw [boolsC_len]; exact Nat.le_refl _)
theorem beqR (n : Nat) : Nat.beq n n = true := by simp
theorem jflat (L : List Bool) : (L.map fun b => [BC b]).flatten = boolsC L := boolsC_flat L

set_option maxHeartbeats 16000000 in
set_option maxRecDepth 10000 in
theorem sliceProgS (p : Pg) (ws : List Bool) (hl : p.vars.length ≤ mx) (hl2 : p.arrays.length ≤ mx) (hb : lsize 5 p.body ≤ 1099511627776) (hw : ws.length ≤ 1000) : DC Try.prog 34 [.agg p.cells, .c (boolsD ws)] [] (sliR p ws) := by
  have hmx := mx_eq
  have hv := programValidS p hl hl2 hb
  have hce := cellsS p hl hl2
  generalize hR : sliR p ws = R
  cases hq : progOK p with
  | false =>
    rw [hq] at hv
    obtain ⟨vs, ar, bd⟩ := p
    refine dcZ Try.func34 ?_
    simp (maxSteps := 9999999) (maxDischargeDepth := 300) only [go_sem]
    ((try (refine drvZ Try.func34 ?_; simp (maxSteps := 9999999) (maxDischargeDepth := 300) only [go_sem])); (try ((with_reducible refine And.intro ?_ ?_) <;> (repeat' with_reducible apply And.intro) <;> try exact sd)))
    refine XK.plain hv ok48 ?_ (hbT ())
    iterate 2 ((try (refine drvZ Try.func34 ?_; simp (maxSteps := 9999999) (maxDischargeDepth := 300) only [go_sem, boolsD, BC])); (try ((with_reducible refine And.intro ?_ ?_) <;> (repeat' with_reducible apply And.intro) <;> try exact sd)))
    refine XK.gskip 3 false (DI .i64 0) ?_ (hbT ())
    iterate 3 ((try (refine drvZ Try.func34 ?_; simp (maxSteps := 9999999) (maxDischargeDepth := 300) only [go_sem, boolsD, BC])); (try ((with_reducible refine And.intro ?_ ?_) <;> (repeat' with_reducible apply And.intro) <;> try exact sd)))
    exact RetOb.ofQ (fun _ => none) [] (.tup [.agg (Pg.cells ⟨[], [], []⟩), DB false]) [] (by simp [enumL, DM, DMs, CM, CMs, HpOK, LowOK, Pg.cells, isI, St1.cellsL]) (by rw [← hR]; exact ⟨rfl, .inr ⟨by rw [hq]; rfl, rfl⟩⟩) (by simp)
  | true =>
    rw [hq] at hv
    have hln := prog_len hq
    by_cases hwl : ws.length = p.vars.length + p.arrays.length
    · have hcond : (progOK p && decide (ws.length = p.vars.length + p.arrays.length)) = true := by rw [hq]; simp [hwl]
      have hbo := body_of hq
      have hnd := fun L hL => needsS p (by omega) 5 p.body L hbo.1 (by have := hbo.2; omega) hL
      have hcu := fun L hL => cutSp p (by omega) (by omega) L hL 5 p.body hbo.1 (by have := hbo.2; omega)
      have hun := fun L => @Under.next p ws L hbo.1
      have hus := fun L => @Under.stop p ws L hbo.1
      have hug := fun L => @Under.go p ws L hbo.1
      have hnl := fun L => needL_len p.vars.length 5 p.body L
      have hst := @Under.start p ws hwl
      have hul := fun L => @Under.len p ws L
      generalize hU : Under p ws = U at *
      generalize hLe : Least p ws = Le at *
      have hfin : ∀ L, Le (gL L) → R (.tup [.agg (Pg.cells (slP p (gL L))), DB true]) [] := fun L h => by rw [← hR]; exact ⟨rfl, .inl ⟨hcond, gL L, by rw [hLe]; exact h, rfl⟩⟩
      obtain ⟨vs, ar, bd⟩ := p
      have hln : 1 ≤ vs.length ∧ vs.length ≤ 12 ∧ ar.length ≤ 2 := hln
      have hwl : ws.length = vs.length + ar.length := hwl
      simp only at hnd hcu hun hus hug hnl hst hul hfin hce
      have hb1 : ((ws.length : Int) != (vs.length : Int) + (ar.length : Int)) = false := by rw [hwl]; simp
      have hb2 : ((ws.length : Int) = (vs.length : Int) + (ar.length : Int)) = True := eq_true (by omega)
      refine dcZ Try.func34 ?_
      simp (maxSteps := 9999999) (maxDischargeDepth := 300) only [go_sem]
      ((try (refine drvZ Try.func34 ?_; simp (maxSteps := 9999999) (maxDischargeDepth := 300) only [go_sem])); (try ((with_reducible refine And.intro ?_ ?_) <;> (repeat' with_reducible apply And.intro) <;> try exact sd)))
      refine XK.plain hv ok48 ?_ (hbT ())
      iterate 2 ((try (refine drvZ Try.func34 ?_; simp (maxSteps := 9999999) (maxDischargeDepth := 300) only [go_sem, boolsD])); (try ((with_reducible refine And.intro ?_ ?_) <;> (repeat' with_reducible apply And.intro) <;> try exact sd)))
      refine XK.gplain 3 false true (fun _ => hce) ok51 ?_ (hbT ())
      iterate 4 ((try (refine drvZ Try.func34 ?_; simp (maxSteps := 9999999) (maxDischargeDepth := 300) only [go_sem, boolsD, hb1, hb2, jflat, takeB, boolsC_len])); (try ((with_reducible refine And.intro ?_ ?_) <;> (repeat' with_reducible apply And.intro) <;> try exact sd)))
      refine Go.loopQ (fun L : List Bool => [(2, .c (.ptr 0 0)), (4, .c (.ptr 64 0)), (6, .c (.msl 65 1 0 L.length))])
        (fun L => [(0, some (Pg.cells ⟨vs, ar, bd⟩)), (64, some [.v (.slice none 0 0), .v (.slice none 0 0), .v (.slice none 0 0)]), (65, some (boolsC L))]) 4096 U outs ?_ ws (fun j => if j = 65 then some 960 else some j) [] _ hst ?_
      · intro L hUL again
        have hLl := hul L hUL
        have h1 := hnd L hLl
        have h2 := hnl L
        have h3 := joinS L (needL vs.length 5 bd L).2 (by omega) h2
        have h4 := hun L hUL
        have h5 := hus L hUL
        have h6 := hug L hUL
        generalize hN : needL vs.length 5 bd L = N at *
        obtain ⟨nb, L'⟩ := N
        simp only at h1 h2 h3 h4 h5 h6
        refine drvL Try.func34 ?_
        simp (maxSteps := 9999999) (maxDischargeDepth := 300) only [go_sem, jflat, takeB, boolsC_len]
        iterate 2 ((try (refine drvZ Try.func34 ?_; simp (maxSteps := 9999999) (maxDischargeDepth := 300) only [go_sem, jflat, takeB, boolsC_len])); (try ((with_reducible refine And.intro ?_ ?_) <;> (repeat' with_reducible apply And.intro) <;> try exact sd)))
        refine XK.callG [65] h1 ok75 (hhp_one (by simp [hOf, upd, boolsC_ren])) (hbT ()) (fun d h' ⟨_, e⟩ => by subst e; simp) ?_
        rintro _ _ ⟨rfl, rfl⟩ _
        iterate 2 ((try (refine drvZ Try.func34 ?_; simp (maxSteps := 9999999) (maxDischargeDepth := 300) only [go_sem, boolsC_ren, takeB, boolsC_len])); (try ((with_reducible refine And.intro ?_ ?_) <;> (repeat' with_reducible apply And.intro) <;> try exact sd)))
        refine XK.callG [4224, 65] h3 ok76 (hhp2 (by simp [hOf, upd, boolsC_ren]) (by simp [hOf, upd, boolsC_ren])) (hbT ()) (fun d h' ⟨_, e⟩ => by subst e; simp) ?_
        rintro _ _ ⟨rfl, rfl⟩ _
        cases hj : (jnA L L' L.length).1 with
        | true =>
          iterate 3 ((try (refine drvZ Try.func34 ?_; simp (maxSteps := 9999999) (maxDischargeDepth := 300) only [go_sem, boolsC_ren, takeB, boolsC_len])); (try ((with_reducible refine And.intro ?_ ?_) <;> (repeat' with_reducible apply And.intro) <;> try exact sd)))
          refine again L' some [] _ h4 (h6 hj) ?_
          simp (maxSteps := 9999999) (maxDischargeDepth := 300) only [go_sem, TmOK, DM, DMs, CM, CMs, forall_eq, exists_eq_left, Mq, HpOK, LowOK, h2]
          simp
          exact CMs.kf (boolsC_kf _)
        | false =>
          obtain ⟨rfl, hle⟩ := h5 hj
          have h7 := hcu L' hLl
          refine XK.freezeAll 65 1 (boolsC L') (L'.map fun b => [BC b]) ?_ (by simp [appUp, upsFrom, rkey, wkey, hOf, upd, boolsC_ren]) (wkL_bools L') (fun x hx => by obtain ⟨b, _, rfl⟩ := List.mem_map.1 hx; rfl) (fun x hx c hc => by obtain ⟨b, _, rfl⟩ := List.mem_map.1 hx; rw [List.mem_singleton.1 hc]; rfl)
          iterate 5 ((try (refine drvZ Try.func34 ?_; simp (maxSteps := 9999999) (maxDischargeDepth := 300) only [go_sem, boolsC_ren, takeB, boolsC_len, List.length_map, beqR, flat_I'])); (try ((with_reducible refine And.intro ?_ ?_) <;> (repeat' with_reducible apply And.intro) <;> try exact sd)))
          refine XK.plain h7 ok77 ?_ (hbT ()) (fun _ => by kernel_rfl)
          iterate 4 ((try (refine drvZ Try.func34 ?_; simp (maxSteps := 9999999) (maxDischargeDepth := 300) only [go_sem, boolsC_ren, takeB, boolsC_len, List.length_map, flat_I'])); (try ((with_reducible refine And.intro ?_ ?_) <;> (repeat' with_reducible apply And.intro) <;> try exact sd)))
          refine RetOb.ofQ (fun _ => none) [5120, 5376] (.tup [.agg (Pg.cells (slP ⟨vs, ar, bd⟩ (gL L'))), DB true]) [] ?_ (hfin L' hle) (by simp)
          simp [enumL, DM, DMs, CM, CMs, HpOK, LowOK, Pg.cells, slP, isI, hOf, upd, flat_I, kf]
          rw [show gL L' = fun i => L'[i]?.getD false from funext fun i => by simp [gL]]
      · simp (maxSteps := 9999999) (maxDischargeDepth := 300) only [go_sem, TmOK, DM, DMs, CM, CMs, forall_eq, exists_eq_left, Mq, HpOK, LowOK, boolsD, BC]
        try simp
        try exact CMs.kf (boolsC_kf _)
    · have hb1 : ((ws.length : Int) != ((p.vars.length + p.arrays.length : Nat) : Int)) = true := by simp only [bne_iff_ne]; omega
      have hb2 : ((ws.length : Int) = ((p.vars.length + p.arrays.length : Nat) : Int)) = False := eq_false (by omega)
      obtain ⟨vs, ar, bd⟩ := p
      simp only at hb1 hb2 hce
      refine dcZ Try.func34 ?_
      simp (maxSteps := 9999999) (maxDischargeDepth := 300) only [go_sem]
      ((try (refine drvZ Try.func34 ?_; simp (maxSteps := 9999999) (maxDischargeDepth := 300) only [go_sem])); (try ((with_reducible refine And.intro ?_ ?_) <;> (repeat' with_reducible apply And.intro) <;> try exact sd)))
      refine XK.plain hv ok48 ?_ (hbT ())
      iterate 2 ((try (refine drvZ Try.func34 ?_; simp (maxSteps := 9999999) (maxDischargeDepth := 300) only [go_sem, boolsD, BC])); (try ((with_reducible refine And.intro ?_ ?_) <;> (repeat' with_reducible apply And.intro) <;> try exact sd)))
      refine XK.gplain 3 false true (fun _ => hce) ok51 ?_ (hbT ())
      generalize ((vs.length + ar.length : Nat) : Int) = cc at *
      iterate 4 ((try (refine drvZ Try.func34 ?_; simp (maxSteps := 9999999) (maxDischargeDepth := 300) only [go_sem, boolsD, BC, hb1, hb2])); (try ((with_reducible refine And.intro ?_ ?_) <;> (repeat' with_reducible apply And.intro) <;> try exact sd)))
      exact RetOb.ofQ (fun _ => none) [] (.tup [.agg (Pg.cells ⟨[], [], []⟩), DB false]) [] (by simp [enumL, DM, DMs, CM, CMs, HpOK, LowOK, Pg.cells, isI, St1.cellsL]) (by rw [← hR]; exact ⟨rfl, .inr ⟨by rw [hq]; simpa using hwl, rfl⟩⟩) (by simp)
end Go.Proofs.Ytclgjiffpijgmaa.CtD

namespace Go.Proofs.Ytclgjiffpijgmaa.CtD
open Go Go.CT CtF CtR

/-- A drawn program and the cells that are wanted of it. -/
def dwR (r : D) (h : List (Option (List C))) : Prop := ∃ (p : Pg) (ws : List Bool), r = .tup [.agg p.cells, .c (boolsD ws)] ∧ SmP p ∧ ws.length ≤ 100 ∧ h = []
theorem boolsC_snoc (ws : List Bool) (b : Bool) : boolsC (ws ++ [b]) = boolsC ws ++ [.v (.bool b)] := by simp [boolsC, BC]

set_option maxHeartbeats 8000000 in
set_option maxRecDepth 10000 in
theorem drawSliceProgram (bs : List Int) (hb : Fits .u8 bs) (hl : bs.length ≤ mx) : DC Try.prog 32 [bytesD bs] [] dwR := by
  have hmx := mx_eq
  have hop := l17Open bs hl
  have hb' := fits_take hb 2000
  have hl' : (bs.take 2000).length ≤ 2000 := by rw [List.length_take]; omega
  generalize hR : dwR = R
  generalize hbs : bs.take 2000 = b2 at *
  unfold bytesD
  unfold bytesD at hop
  refine dcZ Try.func32 ?_
  simp (maxSteps := 9999999) (maxDischargeDepth := 300) only [go_sem]
  ((try (refine drvZ Try.func32 ?_; simp (maxSteps := 9999999) (maxDischargeDepth := 300) only [go_sem])); (try ((with_reducible refine And.intro ?_ ?_) <;> (repeat' with_reducible apply And.intro) <;> try exact sd)))
  refine XK.callG [] hop ok54 (fun i' x h => by simp at h) (hbT ()) (fun d h' ⟨_, e⟩ => by subst e; simp) ?_
  rintro _ _ ⟨rfl, rfl⟩ _
  iterate 2 ((try (refine drvZ Try.func32 ?_; simp (maxSteps := 9999999) (maxDischargeDepth := 300) only [go_sem, renCs_rdr])); (try ((with_reducible refine And.intro ?_ ?_) <;> (repeat' with_reducible apply And.intro) <;> try exact sd)))
  have hpr := l2Program b2 0 hb' hl' (by omega)
  refine XK.callG [192] hpr ok55 (hhp_one (by simp [upd, renCs_rdr])) (hbT ()) (fun d h' ⟨_, _, _, _, _, _, e⟩ => by subst e; simp) ?_
  rintro _ _ ⟨p, rfl, hp, n1, hn1, hn2, rfl⟩ _
  have hln := prog_len hp.ok
  have hmu := fun n h => l2Mutate b2 n p hb' hl' h hp
  have hce := cellsS p (by omega) (by omega)
  obtain ⟨vs, ar, bd⟩ := p
  have hln : 1 ≤ vs.length ∧ vs.length ≤ 12 ∧ ar.length ≤ 2 := hln
  simp only at hce
  obtain ⟨c, hc⟩ : ∃ c, c = vs.length + ar.length := ⟨_, rfl⟩
  rw [← hc] at hce
  iterate 3 ((try (refine drvZ Try.func32 ?_; simp (maxSteps := 9999999) (maxDischargeDepth := 300) only [go_sem, renCs_rdr])); (try ((with_reducible refine And.intro ?_ ?_) <;> (repeat' with_reducible apply And.intro) <;> try exact sd)))
  refine XK.plain hce ok51 ?_ (hbT ())
  iterate 2 ((try (refine drvZ Try.func32 ?_; simp (maxSteps := 9999999) (maxDischargeDepth := 300) only [go_sem, renCs_rdr])); (try ((with_reducible refine And.intro ?_ ?_) <;> (repeat' with_reducible apply And.intro) <;> try exact sd)))
  refine Go.loopQ (fun x : Nat × Nat × List Bool => [(2, .c (.ptr 0 0)), (4, .c (.ptr 192 0)), (5, .c (.ptr 448 0)), (6, .c (.msl 67 1 0 x.2.2.length)), (7, DI .i64 x.1)])
    (fun x => [(0, some [.v (.slice none 0 0), .v (.slice none 0 0), .v (.slice none 0 0)]), (192, some (rdr b2 x.2.1)), (448, some (Pg.cells ⟨vs, ar, bd⟩)), (67, some (boolsC x.2.2))]) 4096
    (fun x => x.2.2.length + x.1 = c ∧ x.2.1 ≤ 2000000 + x.2.2.length) (fun x => x.1) ?_ (c, n1, []) (fun j => if j = 67 then some 576 else some j) [] _ ⟨by simp, by simp; omega⟩ ?_
  · rintro ⟨i, n, ws⟩ ⟨hi, hn⟩ again
    simp only at hi hn
    have hbl := boolsC_len ws
    cases i with
    | succ i =>
      have hpos : ((0 : Int) < ((i : Int) + 1)) = True := eq_true (by omega)
      have hpk := pick b2 n 3 hb' hl' (by omega) (by simp only [InK]; omega)
      refine drvL Try.func32 ?_
      simp (maxSteps := 9999999) (maxDischargeDepth := 300) only [go_sem, hpos]
      ((try (refine drvZ Try.func32 ?_; simp (maxSteps := 9999999) (maxDischargeDepth := 300) only [go_sem, hpos])); (try ((with_reducible refine And.intro ?_ ?_) <;> (repeat' with_reducible apply And.intro) <;> try exact sd)))
      refine XK.callG [192] hpk ok58 (hhp_one (by simp [hOf, upd, renCs_rdr])) (hbT ()) (fun d h' ⟨v, _, _, e⟩ => by subst e; simp) ?_
      rintro _ _ ⟨v, rfl, hpv, rfl⟩ _
      by_cases hv : v = 0
      · subst hv
        iterate 3 ((try (refine drvZ Try.func32 ?_; simp (maxSteps := 9999999) (maxDischargeDepth := 300) only [go_sem, hpos, renCs_rdr, Int.reduceBEq, Int.reduceEq, hbl])); (try ((with_reducible refine And.intro ?_ ?_) <;> (repeat' with_reducible apply And.intro) <;> try exact sd)))
        refine again (i, n + 1, ws ++ [true]) (fun j => if j = 67 then some 4544 else some j) [] _ ⟨by simp; omega, by simp; omega⟩ (by simp) ?_
        simp (maxSteps := 9999999) (maxDischargeDepth := 300) only [go_sem, TmOK, DM, DMs, CM, CMs, forall_eq, exists_eq_left, Mq, HpOK, LowOK, boolsC_snoc, List.length_append]
        simp
        first | exact ⟨CMs.kf (rdr_kf _ _), CMs.kf (kf_app (boolsC_kf _) (by simp [kf]))⟩ | exact ⟨CMs.kf (kf_app (boolsC_kf _) (by simp [kf])), CMs.kf (rdr_kf _ _)⟩
      · have e1 : (v == 0) = false := by simp [hv]
        iterate 3 ((try (refine drvZ Try.func32 ?_; simp (maxSteps := 9999999) (maxDischargeDepth := 300) only [go_sem, hpos, renCs_rdr, e1, hv, hbl])); (try ((with_reducible refine And.intro ?_ ?_) <;> (repeat' with_reducible apply And.intro) <;> try exact sd)))
        refine again (i, n + 1, ws ++ [false]) (fun j => if j = 67 then some 4544 else some j) [] _ ⟨by simp; omega, by simp; omega⟩ (by simp) ?_
        simp (maxSteps := 9999999) (maxDischargeDepth := 300) only [go_sem, TmOK, DM, DMs, CM, CMs, forall_eq, exists_eq_left, Mq, HpOK, LowOK, boolsC_snoc, List.length_append]
        simp
        first | exact ⟨CMs.kf (rdr_kf _ _), CMs.kf (kf_app (boolsC_kf _) (by simp [kf]))⟩ | exact ⟨CMs.kf (kf_app (boolsC_kf _) (by simp [kf])), CMs.kf (rdr_kf _ _)⟩
    | zero =>
      have hz : ((0 : Int) < 0) = False := eq_false (by omega)
      have hpk := pick b2 n 30 hb' hl' (by omega) (by simp only [InK]; omega)
      refine drvL Try.func32 ?_
      simp (maxSteps := 9999999) (maxDischargeDepth := 300) only [go_sem, Int.natCast_zero, hz]
      iterate 2 ((try (refine drvZ Try.func32 ?_; simp (maxSteps := 9999999) (maxDischargeDepth := 300) only [go_sem, Int.natCast_zero, hz])); (try ((with_reducible refine And.intro ?_ ?_) <;> (repeat' with_reducible apply And.intro) <;> try exact sd)))
      refine XK.callG [192] hpk ok58 (hhp_one (by simp [hOf, upd, renCs_rdr])) (hbT ()) (fun d h' ⟨v, _, _, e⟩ => by subst e; simp) ?_
      rintro _ _ ⟨v, rfl, hpv, rfl⟩ _
      have hmu := hmu (n + 1) (by omega)
      by_cases hv : v = 0
      · subst hv
        iterate 3 ((try (refine drvZ Try.func32 ?_; simp (maxSteps := 9999999) (maxDischargeDepth := 300) only [go_sem, renCs_rdr, Int.reduceBEq, Int.reduceEq, hbl])); (try ((with_reducible refine And.intro ?_ ?_) <;> (repeat' with_reducible apply And.intro) <;> try exact sd)))
        refine XK.callG [192] hmu ok69 (hhp_one (by simp [hOf, upd, renCs_rdr])) (hbT ()) (fun d h' ⟨_, _, _, _, _, _, e⟩ => by subst e; simp) ?_
        rintro _ _ ⟨p2, rfl, hp2, n4, hn7, hn8, rfl⟩ _
        obtain ⟨vs2, ar2, bd2⟩ := p2
        iterate 3 ((try (refine drvZ Try.func32 ?_; simp (maxSteps := 9999999) (maxDischargeDepth := 300) only [go_sem, renCs_rdr])); (try ((with_reducible refine And.intro ?_ ?_) <;> (repeat' with_reducible apply And.intro) <;> try exact sd)))
        refine RetOb.ofQ (fun _ => none) [4544] (.tup [.agg (Pg.cells ⟨vs2, ar2, bd2⟩), .c (boolsD (ws ++ [true]))]) [] ?_ (by rw [← hR]; exact ⟨_, _, rfl, hp2, by simp; omega, rfl⟩) (by simp)
        simp [enumL, DM, DMs, CM, CMs, HpOK, LowOK, hOf, Pg.cells, isI, upd, boolsD, kf]
        exact ⟨(jflat ws).symm, fun x hx => by rcases hx with (⟨_, rfl⟩ | ⟨_, rfl⟩) | rfl <;> rfl, fun x hx c hc => by rcases hx with (⟨_, rfl⟩ | ⟨_, rfl⟩) | rfl <;> (rw [List.mem_singleton.1 hc])⟩
      · have e1 : (v == 0) = false := by simp [hv]
        iterate 3 ((try (refine drvZ Try.func32 ?_; simp (maxSteps := 9999999) (maxDischargeDepth := 300) only [go_sem, renCs_rdr, e1, hv, hbl])); (try ((with_reducible refine And.intro ?_ ?_) <;> (repeat' with_reducible apply And.intro) <;> try exact sd)))
        refine XK.callG [192] hmu ok69 (hhp_one (by simp [hOf, upd, renCs_rdr])) (hbT ()) (fun d h' ⟨_, _, _, _, _, _, e⟩ => by subst e; simp) ?_
        rintro _ _ ⟨p2, rfl, hp2, n4, hn7, hn8, rfl⟩ _
        obtain ⟨vs2, ar2, bd2⟩ := p2
        iterate 3 ((try (refine drvZ Try.func32 ?_; simp (maxSteps := 9999999) (maxDischargeDepth := 300) only [go_sem, renCs_rdr])); (try ((with_reducible refine And.intro ?_ ?_) <;> (repeat' with_reducible apply And.intro) <;> try exact sd)))
        refine RetOb.ofQ (fun _ => none) [67] (.tup [.agg (Pg.cells ⟨vs2, ar2, bd2⟩), .c (boolsD ws)]) [] ?_ (by rw [← hR]; exact ⟨_, _, rfl, hp2, by omega, rfl⟩) (by simp)
        simp [enumL, DM, DMs, CM, CMs, HpOK, LowOK, hOf, Pg.cells, isI, upd, boolsD, kf]
        exact ⟨(jflat ws).symm, fun x hx => by rcases hx with ⟨_, rfl⟩ | ⟨_, rfl⟩ <;> rfl, fun x hx c hc => by rcases hx with ⟨_, rfl⟩ | ⟨_, rfl⟩ <;> (rw [List.mem_singleton.1 hc])⟩
  · simp (maxSteps := 9999999) (maxDischargeDepth := 300) only [go_sem, TmOK, DM, DMs, CM, CMs, forall_eq, exists_eq_left, Mq, HpOK, LowOK, renCs_rdr]
    simp [boolsC, CMs]
    exact CMs.kf (rdr_kf _ _)
end Go.Proofs.Ytclgjiffpijgmaa.CtD

namespace Go.Proofs.Ytclgjiffpijgmaa.CtD
open Go Go.CT CtF CtR

set_option maxHeartbeats 4000000 in
set_option maxRecDepth 10000 in
theorem eqFE (ks : List Ex) (hl : ks.length ≤ 1000) (h : ∀ e ∈ ks, DC Try.prog 123 [.agg e.cells, .agg e.cells] [] (fun r h => r = DB true ∧ h = [])) :
    DC Try.prog 146 [.c (.isl 3 (Ex.cellsL ks)), .c (.isl 3 (Ex.cellsL ks)), .c (.clo 123 [])] [] (fun r h => r = DB true ∧ h = []) := by
  have hmx := mx_eq
  generalize hR : (fun (r : D) (h : List (Option (List C))) => r = DB true ∧ h = []) = R at h ⊢
  have hb : ((ks.length : Int) != ks.length) = false := by simp
  have he : ((ks.length : Int) = ks.length) = True := eq_true rfl
  refine dcZ Try.func146 ?_
  simp (maxSteps := 9999999) (maxDischargeDepth := 300) only [go_sem, hb, he]
  iterate 2 ((try (refine drvZ Try.func146 ?_; simp (maxSteps := 9999999) (maxDischargeDepth := 300) only [go_sem, hb, he])); (try ((with_reducible refine And.intro ?_ ?_) <;> (repeat' with_reducible apply And.intro) <;> try exact sd)))
  refine Go.loopQ (fun i : Nat => [(1, .c (.isl 3 (Ex.cellsL ks))), (2, .c (.clo 123 [])), (15, .c (.isl 3 (Ex.cellsL ks))), (16, DI .i64 ks.length), (17, DI .i64 i)]) (fun _ => [])
    4096 (fun i => i ≤ ks.length) (fun i => ks.length - i) ?_ 0 some [] _ (Nat.zero_le _) ?_
  · intro i hi again
    rcases Nat.lt_or_ge i ks.length with hlt | hge
    · obtain ⟨⟨k', v', ks'⟩, hx⟩ : ∃ x, ks[i]? = some x := ⟨ks[i], by simp [hlt]⟩
      have hc := h _ (List.mem_of_getElem? hx)
      rw [← hR] at hc
      refine drvL Try.func146 ?_
      simp (maxSteps := 9999999) (maxDischargeDepth := 300) only [go_sem, hx, hlt]
      iterate 3 ((try (refine drvZ Try.func146 ?_; simp (maxSteps := 9999999) (maxDischargeDepth := 300) only [go_sem, hx, hlt])); (try ((with_reducible refine And.intro ?_ ?_) <;> (repeat' with_reducible apply And.intro) <;> try exact sd)))
      refine XK.plain hc ok123 ?_ (hbT ())
      iterate 3 ((try (refine drvZ Try.func146 ?_; simp (maxSteps := 9999999) (maxDischargeDepth := 300) only [go_sem, hx, hlt])); (try ((with_reducible refine And.intro ?_ ?_) <;> (repeat' with_reducible apply And.intro) <;> try exact sd)))
      refine again (i + 1) some [] _ hlt (by omega) ?_
      simp (maxSteps := 9999999) (maxDischargeDepth := 300) only [go_sem, TmOK, DM, DMs, CM, CMs, forall_eq, exists_eq_left, Mq, HpOK, LowOK]
      try simp
    · have hn : ¬ i < ks.length := by omega
      refine drvL Try.func146 ?_
      simp (maxSteps := 9999999) (maxDischargeDepth := 300) only [go_sem, hn]
      iterate 2 ((try (refine drvZ Try.func146 ?_; simp (maxSteps := 9999999) (maxDischargeDepth := 300) only [go_sem, hn])); (try ((with_reducible refine And.intro ?_ ?_) <;> (repeat' with_reducible apply And.intro) <;> try exact sd)))
      exact RetOb.plain (d := DB true) (by rw [← hR]; exact ⟨rfl, rfl⟩) rfl
  · simp (maxSteps := 9999999) (maxDischargeDepth := 300) only [go_sem, TmOK, DM, DMs, CM, CMs, forall_eq, exists_eq_left, Mq, HpOK, LowOK]
    try simp

set_option maxHeartbeats 4000000 in
set_option maxRecDepth 10000 in
theorem exprSame (e : Ex) (he : SmE e) : DC Try.prog 123 [.agg e.cells, .agg e.cells] [] (fun r h => r = DB true ∧ h = []) := by
  have hmx := mx_eq
  induction he with
  | mk k v ks h3 hs ih =>
    have hq := eqFE ks (by omega) ih
    have e1 : (k == k) = true := by simp
    have e2 : (v == v) = true := by simp
    refine dcZ Try.func123 ?_
    simp (maxSteps := 9999999) (maxDischargeDepth := 300) only [go_sem, e1, e2]
    iterate 2 ((try (refine drvZ Try.func123 ?_; simp (maxSteps := 9999999) (maxDischargeDepth := 300) only [go_sem, e1, e2])); (try ((with_reducible refine And.intro ?_ ?_) <;> (repeat' with_reducible apply And.intro) <;> try exact sd)))
    refine XK.gplain 12 true true (fun _ => hq) ok146 ?_ (hbT ())
    iterate 2 ((try (refine drvZ Try.func123 ?_; simp (maxSteps := 9999999) (maxDischargeDepth := 300) only [go_sem])); (try ((with_reducible refine And.intro ?_ ?_) <;> (repeat' with_reducible apply And.intro) <;> try exact sd)))
    exact RetOb.plain (d := DB true) ⟨rfl, rfl⟩ rfl

set_option maxHeartbeats 4000000 in
set_option maxRecDepth 10000 in
theorem eqFS (l : List St1) (hl : l.length ≤ 1000) (h : ∀ s ∈ l, DC Try.prog 122 [.agg s.cells, .agg s.cells] [] (fun r h => r = DB true ∧ h = [])) :
    DC Try.prog 121 [.c (.isl 11 (St1.cellsL l)), .c (.isl 11 (St1.cellsL l)), .c (.clo 122 [])] [] (fun r h => r = DB true ∧ h = []) := by
  have hmx := mx_eq
  generalize hR : (fun (r : D) (h : List (Option (List C))) => r = DB true ∧ h = []) = R at h ⊢
  have hb : ((l.length : Int) != l.length) = false := by simp
  have he : ((l.length : Int) = l.length) = True := eq_true rfl
  refine dcZ Try.func121 ?_
  simp (maxSteps := 9999999) (maxDischargeDepth := 300) only [go_sem, hb, he]
  iterate 2 ((try (refine drvZ Try.func121 ?_; simp (maxSteps := 9999999) (maxDischargeDepth := 300) only [go_sem, hb, he])); (try ((with_reducible refine And.intro ?_ ?_) <;> (repeat' with_reducible apply And.intro) <;> try exact sd)))
  refine Go.loopQ (fun i : Nat => [(1, .c (.isl 11 (St1.cellsL l))), (2, .c (.clo 122 [])), (15, .c (.isl 11 (St1.cellsL l))), (16, DI .i64 l.length), (17, DI .i64 i)]) (fun _ => [])
    4096 (fun i => i ≤ l.length) (fun i => l.length - i) ?_ 0 some [] _ (Nat.zero_le _) ?_
  · intro i hi again
    rcases Nat.lt_or_ge i l.length with hlt | hge
    · obtain ⟨⟨k, t, ⟨ik, iv, iks⟩, ⟨vk, vv, vks⟩, c, b, e⟩, hx⟩ : ∃ x, l[i]? = some x := ⟨l[i], by simp [hlt]⟩
      have hc := h _ (List.mem_of_getElem? hx)
      rw [← hR] at hc
      refine drvL Try.func121 ?_
      simp (maxSteps := 9999999) (maxDischargeDepth := 300) only [go_sem, List.cons_append, List.nil_append, hx, hlt]
      iterate 3 ((try (refine drvZ Try.func121 ?_; simp (maxSteps := 9999999) (maxDischargeDepth := 300) only [go_sem, List.cons_append, List.nil_append, hx, hlt])); (try ((with_reducible refine And.intro ?_ ?_) <;> (repeat' with_reducible apply And.intro) <;> try exact sd)))
      refine XK.plain hc ok122 ?_ (hbT ())
      iterate 3 ((try (refine drvZ Try.func121 ?_; simp (maxSteps := 9999999) (maxDischargeDepth := 300) only [go_sem, List.cons_append, List.nil_append, hx, hlt])); (try ((with_reducible refine And.intro ?_ ?_) <;> (repeat' with_reducible apply And.intro) <;> try exact sd)))
      refine again (i + 1) some [] _ hlt (by omega) ?_
      simp (maxSteps := 9999999) (maxDischargeDepth := 300) only [go_sem, TmOK, DM, DMs, CM, CMs, forall_eq, exists_eq_left, Mq, HpOK, LowOK, List.cons_append, List.nil_append]
      try simp
    · have hn : ¬ i < l.length := by omega
      refine drvL Try.func121 ?_
      simp (maxSteps := 9999999) (maxDischargeDepth := 300) only [go_sem, hn]
      iterate 2 ((try (refine drvZ Try.func121 ?_; simp (maxSteps := 9999999) (maxDischargeDepth := 300) only [go_sem, hn])); (try ((with_reducible refine And.intro ?_ ?_) <;> (repeat' with_reducible apply And.intro) <;> try exact sd)))
      exact RetOb.plain (d := DB true) (by rw [← hR]; exact ⟨rfl, rfl⟩) rfl
  · simp (maxSteps := 9999999) (maxDischargeDepth := 300) only [go_sem, TmOK, DM, DMs, CM, CMs, forall_eq, exists_eq_left, Mq, HpOK, LowOK]
    try simp

set_option maxHeartbeats 4000000 in
set_option maxRecDepth 10000 in
theorem sameStmts (l : List St1) (hl : l.length ≤ 1000) (h : ∀ s ∈ l, DC Try.prog 122 [.agg s.cells, .agg s.cells] [] (fun r h => r = DB true ∧ h = [])) :
    DC Try.prog 78 [.c (.isl 11 (St1.cellsL l)), .c (.isl 11 (St1.cellsL l))] [] (fun r h => r = DB true ∧ h = []) := by
  refine dcZ Try.func78 ?_
  simp (maxSteps := 9999999) (maxDischargeDepth := 300) only [go_sem]
  ((try (refine drvZ Try.func78 ?_; simp (maxSteps := 9999999) (maxDischargeDepth := 300) only [go_sem])); (try ((with_reducible refine And.intro ?_ ?_) <;> (repeat' with_reducible apply And.intro) <;> try exact sd)))
  refine XK.plain (eqFS l hl h) ok121 ?_ (hbT ())
  ((try (refine drvZ Try.func78 ?_; simp (maxSteps := 9999999) (maxDischargeDepth := 300) only [go_sem])); (try ((with_reducible refine And.intro ?_ ?_) <;> (repeat' with_reducible apply And.intro) <;> try exact sd)))
  exact RetOb.plain (d := DB true) ⟨rfl, rfl⟩ rfl

set_option maxHeartbeats 4000000 in
set_option maxRecDepth 10000 in
theorem sameStmt (p : Pg) : ∀ (d : Nat) (s : St1), stmtOK p d s = true → tsize d s ≤ 1000 → DC Try.prog 122 [.agg s.cells, .agg s.cells] [] (fun r h => r = DB true ∧ h = [])
  | 0, s, h, _ => by simp [stmtOK] at h
  | d + 1, ⟨k, t, ⟨ik, iv, iks⟩, ⟨vk, vv, vks⟩, c, b, e⟩, h, hsz => by
    have hmx := mx_eq
    have hex := exprs_of h
    have hbe := stmtOK_succ h
    have hs1 := lsize_subs d b
    have hs2 := lsize_subs d e
    have hz : tsize (d + 1) (.mk k t (.mk ik iv iks) (.mk vk vv vks) c b e) = 1 + (b.map (tsize d)).sum + (e.map (tsize d)).sum := rfl
    have hlen : ∀ l : List St1, (∀ s ∈ l, stmtOK p d s = true) → l.length ≤ (l.map (tsize d)).sum := fun l hl => by
      induction l with
      | nil => simp
      | cons a r ih =>
        have := ih (fun s hs => hl s (by simp [hs]))
        have h1 : 1 ≤ tsize d a := by
          cases d with
          | zero => have := hl a (by simp); simp [stmtOK] at this
          | succ d => obtain ⟨k, t, ix, v, c, b, e⟩ := a; simp only [tsize]; omega
        simp only [List.length_cons, List.map_cons, List.sum_cons]; omega
    have hmem : ∀ (l : List St1), (∀ s ∈ l, tsize d s ≤ (l.map (tsize d)).sum) := fun l => by
      induction l with
      | nil => simp
      | cons a r ih =>
        intro s hs
        simp only [List.map_cons, List.sum_cons]
        rcases List.mem_cons.1 hs with rfl | hs
        · omega
        · have := ih s hs; omega
    have hb := sameStmts b (by have := hlen b hbe.2.1; omega) (fun s hs => sameStmt p d s (hbe.2.1 s hs) (by have := hmem b s hs; omega))
    have he := sameStmts e (by have := hlen e hbe.2.2; omega) (fun s hs => sameStmt p d s (hbe.2.2 s hs) (by have := hmem e s hs; omega))
    have x1 := exprSame _ (SmE_of hex.1)
    have x2 := exprSame _ (SmE_of hex.2)
    have e1 : (k == k) = true := by simp
    have e2 : (t == t) = true := by simp
    have e3 : (c == c) = true := by simp
    refine dcZ Try.func122 ?_
    simp (maxSteps := 9999999) (maxDischargeDepth := 300) only [go_sem, List.cons_append, List.nil_append, e1, e2, e3]
    iterate 2 ((try (refine drvZ Try.func122 ?_; simp (maxSteps := 9999999) (maxDischargeDepth := 300) only [go_sem, List.cons_append, List.nil_append, e1, e2, e3])); (try ((with_reducible refine And.intro ?_ ?_) <;> (repeat' with_reducible apply And.intro) <;> try exact sd)))
    refine XK.gplain 12 true true (fun _ => x1) ok123 ?_ (hbT ())
    iterate 2 ((try (refine drvZ Try.func122 ?_; simp (maxSteps := 9999999) (maxDischargeDepth := 300) only [go_sem, List.cons_append, List.nil_append, e1, e2, e3])); (try ((with_reducible refine And.intro ?_ ?_) <;> (repeat' with_reducible apply And.intro) <;> try exact sd)))
    refine XK.gplain 19 true true (fun _ => x2) ok123 ?_ (hbT ())
    iterate 3 ((try (refine drvZ Try.func122 ?_; simp (maxSteps := 9999999) (maxDischargeDepth := 300) only [go_sem, List.cons_append, List.nil_append, e1, e2, e3])); (try ((with_reducible refine And.intro ?_ ?_) <;> (repeat' with_reducible apply And.intro) <;> try exact sd)))
    refine XK.gplain 33 true true (fun _ => hb) ok78 ?_ (hbT ())
    iterate 2 ((try (refine drvZ Try.func122 ?_; simp (maxSteps := 9999999) (maxDischargeDepth := 300) only [go_sem, List.cons_append, List.nil_append, e1, e2, e3])); (try ((with_reducible refine And.intro ?_ ?_) <;> (repeat' with_reducible apply And.intro) <;> try exact sd)))
    refine XK.gplain 40 true true (fun _ => he) ok78 ?_ (hbT ())
    iterate 2 ((try (refine drvZ Try.func122 ?_; simp (maxSteps := 9999999) (maxDischargeDepth := 300) only [go_sem, List.cons_append, List.nil_append, e1, e2, e3])); (try ((with_reducible refine And.intro ?_ ?_) <;> (repeat' with_reducible apply And.intro) <;> try exact sd)))
    exact RetOb.plain (d := DB true) ⟨rfl, rfl⟩ rfl

set_option maxHeartbeats 4000000 in
set_option maxRecDepth 10000 in
theorem programSame (p : Pg) (hl : p.vars.length ≤ mx) (hl2 : p.arrays.length ≤ mx) (hb : p.body.length ≤ 1000) (h : ∀ s ∈ p.body, DC Try.prog 122 [.agg s.cells, .agg s.cells] [] (fun r h => r = DB true ∧ h = [])) :
    DC Try.prog 35 [.agg p.cells, .agg p.cells] [] (fun r h => r = DB true ∧ h = []) := by
  have hmx := mx_eq
  have h1 := equalI p.vars p.vars hl
  have h2 := equalI p.arrays p.arrays hl2
  rw [show decide (p.vars = p.vars) = true by simp] at h1
  rw [show decide (p.arrays = p.arrays) = true by simp] at h2
  have h3 := sameStmts p.body hb h
  obtain ⟨vs, ar, bd⟩ := p
  refine dcZ Try.func35 ?_
  simp (maxSteps := 9999999) (maxDischargeDepth := 300) only [go_sem]
  ((try (refine drvZ Try.func35 ?_; simp (maxSteps := 9999999) (maxDischargeDepth := 300) only [go_sem])); (try ((with_reducible refine And.intro ?_ ?_) <;> (repeat' with_reducible apply And.intro) <;> try exact sd)))
  refine XK.plain h1 ok66 ?_ (hbT ())
  iterate 2 ((try (refine drvZ Try.func35 ?_; simp (maxSteps := 9999999) (maxDischargeDepth := 300) only [go_sem])); (try ((with_reducible refine And.intro ?_ ?_) <;> (repeat' with_reducible apply And.intro) <;> try exact sd)))
  refine XK.gplain 5 true true (fun _ => h2) ok66 ?_ (hbT ())
  iterate 2 ((try (refine drvZ Try.func35 ?_; simp (maxSteps := 9999999) (maxDischargeDepth := 300) only [go_sem])); (try ((with_reducible refine And.intro ?_ ?_) <;> (repeat' with_reducible apply And.intro) <;> try exact sd)))
  refine XK.gplain 12 true true (fun _ => h3) ok78 ?_ (hbT ())
  iterate 2 ((try (refine drvZ Try.func35 ?_; simp (maxSteps := 9999999) (maxDischargeDepth := 300) only [go_sem])); (try ((with_reducible refine And.intro ?_ ?_) <;> (repeat' with_reducible apply And.intro) <;> try exact sd)))
  exact RetOb.plain (d := DB true) ⟨rfl, rfl⟩ rfl
end Go.Proofs.Ytclgjiffpijgmaa.CtD

namespace Go.Proofs.Ytclgjiffpijgmaa.CtD
open Go Go.CT CtF CtR

theorem dcMono {P : Program} {F : FuncId} {args : List D} {h : List (Option (List C))} {R R' : D → List (Option (List C)) → Prop} (hD : DC P F args h R) (hR : ∀ d h', R d h' → R' d h') : DC P F args h R' :=
  fun I w s vs H hv => (hD I w s vs H hv).mono fun e w' ⟨v, I', s', d, h', he, hr, k⟩ => ⟨v, I', s', d, h', he, hR d h' hr, k⟩
theorem sameBody {p : Pg} (h : progOK p = true) : ∀ s ∈ p.body, DC Try.prog 122 [.agg s.cells, .agg s.cells] [] (fun r h => r = DB true ∧ h = []) := fun s hs => by
  have hb := body_of h
  refine sameStmt p 5 s (hb.1 s hs) ?_
  have : ∀ l : List St1, s ∈ l → tsize 5 s ≤ (l.map (tsize 5)).sum := fun l => by
    induction l with
    | nil => simp
    | cons a r ih =>
      intro hs
      simp only [List.map_cons, List.sum_cons]
      rcases List.mem_cons.1 hs with rfl | hs
      · omega
      · have := ih hs; omega
  have h1 := this p.body hs
  have h2 : (p.body.map (tsize 5)).sum = lsize 5 p.body := rfl
  omega

end Go.Proofs.Ytclgjiffpijgmaa.CtD

namespace Go.Proofs.Ytclgjiffpijgmaa.CtD
open Go Go.CT CtF CtR

/-! Plain: a slice answers as the program does. -/
structure AgM (q : Nat → Bool) (nv : Nat) (m m' : Mm) : Prop where
  lv : m.vals.length = m'.vals.length
  la : m.arrays.length = m'.arrays.length
  val : ∀ i, i < nv → q i = true → m.vals[i]? = m'.vals[i]?
  arr : ∀ j, q (nv + j) = true → m.arrays[j]? = m'.arrays[j]?
theorem AgM.refl (q : Nat → Bool) (nv : Nat) (m : Mm) : AgM q nv m m := ⟨rfl, rfl, fun _ _ _ => rfl, fun _ _ => rfl⟩
theorem AgM.setV {q : Nat → Bool} {nv : Nat} {m m' : Mm} (h : AgM q nv m m') (t x : Int) : AgM q nv (setV m t x) (setV m' t x) := by
  refine ⟨by simp [CtR.setV, h.lv], h.la, fun i hi hq => ?_, h.arr⟩
  have := h.val i hi hq
  have := h.lv
  simp only [CtR.setV, List.getElem?_set]
  split <;> simp_all
theorem AgM.setVl {q : Nat → Bool} {nv : Nat} {m m' : Mm} (h : AgM q nv m m') {t : Int} (x : Int) (ht : q t.toNat = false) : AgM q nv (CtR.setV m t x) m' := by
  refine ⟨by simp [CtR.setV, h.lv], h.la, fun i hi hq => ?_, h.arr⟩
  have h1 := h.val i hi hq
  simp only [CtR.setV, List.getElem?_set]
  by_cases e : t.toNat = i
  · subst e; rw [ht] at hq; cases hq
  · simp [e, h1]
theorem AgM.setA {q : Nat → Bool} {nv : Nat} {m m' : Mm} (h : AgM q nv m m') {t : Int} (i x : Int) (ht : q (nv + t.toNat) = true) : AgM q nv (CtR.setA m t i x) (CtR.setA m' t i x) := by
  have ha : arrAt m t = arrAt m' t := by unfold arrAt; rw [List.getD_eq_getElem?_getD, List.getD_eq_getElem?_getD, h.arr _ ht]
  refine ⟨h.lv, by simp [CtR.setA, h.la], h.val, fun j hq => ?_⟩
  have h1 := h.arr j hq
  have h2 := h.la
  simp only [CtR.setA, List.getElem?_set, ha]
  split <;> simp_all
theorem AgM.setAl {q : Nat → Bool} {nv : Nat} {m m' : Mm} (h : AgM q nv m m') {t : Int} (i x : Int) (ht : q (nv + t.toNat) = false) : AgM q nv (CtR.setA m t i x) m' := by
  refine ⟨h.lv, by simp [CtR.setA, h.la], h.val, fun j hq => ?_⟩
  have h1 := h.arr j hq
  simp only [CtR.setA, List.getElem?_set]
  by_cases e : t.toNat = j
  · subst e; rw [ht] at hq; cases hq
  · simp [e, h1]
theorem subB_fold {q : Nat → Bool} : ∀ (l : List Nat) (a : Nat), subB (l.foldl (fun a b => a ||| b) a) q ↔ subB a q ∧ ∀ x ∈ l, subB x q
  | [], a => by simp
  | x :: r, a => by
    rw [List.foldl_cons, subB_fold r, subB_or]
    simp only [List.mem_cons, forall_eq_or_imp]
    exact and_assoc
theorem evalE_ag {p : Pg} {q : Nat → Bool} {m m' : Mm} (h : AgM q p.vars.length m m') : ∀ (d : Nat) (e : Ex), CtR.shape p d e = true → subB (occN p.vars.length d e) q → evalE m d e = evalE m' d e
  | 0, e, _, _ => rfl
  | d + 1, .mk k v ks, hs, hq => by
    obtain ⟨g1, g2, g3⟩ := shape_succ hs
    obtain ⟨hl3, hla, hv0, hv1⟩ := fits_len g1
    simp only [occN] at hq
    obtain ⟨q1, q2⟩ := (subB_fold _ _).1 hq
    have hk : ∀ x ∈ ks, evalE m d x = evalE m' d x := fun x hx => evalE_ag h d x (g2 x hx) (q2 _ (List.mem_map.2 ⟨x, hx, rfl⟩))
    have e1 : (ks.map fun e => (evalE m d e).1) = ks.map fun e => (evalE m' d e).1 := List.map_congr_left fun x hx => by rw [hk x hx]
    have e2 : (ks.map fun e => (evalE m d e).2) = ks.map fun e => (evalE m' d e).2 := List.map_congr_left fun x hx => by rw [hk x hx]
    simp only [evalE, e1, e2]
    by_cases k1 : k = 1
    · simp [k1]
    by_cases k2 : k = 2
    · subst k2
      have hlim : v < p.vars.length := by simpa [limit] using hv1
      have hqv : q v.toNat = true := q1 _ (by simp [occB, Nat.testBit_two_pow])
      have := h.val v.toNat (by omega) hqv
      simp only [Int.reduceEq, if_false, if_true, nth, List.getD_eq_getElem?_getD, this]
    by_cases k3 : k = 3
    · subst k3
      have hqv : q (p.vars.length + v.toNat) = true := q1 _ (by simp [occB, Nat.testBit_two_pow])
      have := h.arr v.toNat hqv
      have ha : arrAt m v = arrAt m' v := by unfold arrAt; rw [List.getD_eq_getElem?_getD, List.getD_eq_getElem?_getD, this]
      simp only [Int.reduceEq, if_false, if_true, ha]
    · simp only [k1, k2, k3, if_false]
theorem evalX_ag {p : Pg} {q : Nat → Bool} {m m' : Mm} (h : AgM q p.vars.length m m') {e : Ex} (hs : CtR.shape p 5 e = true ∨ e = .mk 0 0 []) (hq : subB (occN p.vars.length 5 e) q) : evalE m 5 e = evalE m' 5 e := by
  rcases hs with hs | rfl
  · exact evalE_ag h 5 e hs hq
  · simp [evalE]
/-- The releases of a trace. -/
def rel (l : List Ev) : List Ev := l.filter fun e => e.kind == 4
theorem rel_app (a b : List Ev) : rel (a ++ b) = rel a ++ rel b := by simp [rel]
theorem rel_nil : rel [] = [] := rfl
theorem evalE_no4 (m : Mm) : ∀ (d : Nat) (e : Ex), ∀ x ∈ (evalE m d e).2, x.kind ≠ 4
  | 0, e => by simp [evalE]
  | d + 1, .mk k v ks => by
    have hf : ∀ x ∈ (ks.map fun e => (evalE m d e).2).flatten, x.kind ≠ 4 := fun x hx => by
      obtain ⟨l, hl, hxl⟩ := List.mem_flatten.1 hx
      obtain ⟨e, _, rfl⟩ := List.mem_map.1 hl
      exact evalE_no4 m d e x hxl
    intro x hx
    simp only [evalE] at hx
    split at hx
    · cases hx
    split at hx
    · cases hx
    split at hx
    · rcases List.mem_append.1 hx with hx | hx
      · exact hf x hx
      · rw [List.mem_singleton.1 hx]; simp
    split at hx
    · exact hf x hx
    · exact hf x hx
theorem rel_eval (m : Mm) (d : Nat) (e : Ex) : rel (evalE m d e).2 = [] := by
  unfold rel
  rw [List.filter_eq_nil_iff]
  intro x hx
  simpa using evalE_no4 m d e x hx
theorem iter_ag {q : Nat → Bool} {nv : Nat} {f f' : Mm → Mm × List Ev} (hf : ∀ m m', AgM q nv m m' → AgM q nv (f m).1 (f' m').1 ∧ rel (f m).2 = rel (f' m').2) : ∀ (n : Nat) (m m' : Mm), AgM q nv m m' →
    AgM q nv (iterR f n m).1 (iterR f' n m').1 ∧ rel (iterR f n m).2 = rel (iterR f' n m').2
  | 0, m, m', h => ⟨h, rfl⟩
  | n + 1, m, m', h => by
    have h1 := iter_ag hf n m m' h
    have h2 := hf _ _ h1.1
    simp only [iterR, rel_app]
    exact ⟨h2.1, by rw [h1.2, h2.2]⟩
theorem iter_nil : ∀ (n : Nat) (m : Mm), iterR (fun m => (m, [])) n m = (m, [])
  | 0, m => rfl
  | n + 1, m => by simp [iterR, iter_nil n m]
def runO (d : Nat) (m : Mm) : Option St1 → Mm × List Ev
  | none => (m, [])
  | some s => runS d m s
theorem addS_sub {q r : Nat → Bool} {nv : Nat} {f : List St1 → List St1} {g : List St1 → Nat} : ∀ (l : List St1) (a : Nat), subB (l.foldl (addS q nv f g) a) r ↔ subB a r ∧ ∀ s ∈ l, subB (addS q nv f g 0 s) r
  | [], a => by simp
  | s :: t, a => by
    rw [List.foldl_cons, addS_sub t, addS_or, subB_or]
    simp only [List.mem_cons, forall_eq_or_imp]
    exact and_assoc
theorem len0 {l : List St1} (h : ¬ 0 < l.length) : l = [] := List.eq_nil_of_length_eq_zero (by omega)
theorem run_cut (p : Pg) (q : Nat → Bool) : ∀ (d : Nat) (l : List St1), (∀ s ∈ l, stmtOK p d s = true) → subB (setN q p.vars.length d l) q → ∀ m m', AgM q p.vars.length m m' →
    AgM q p.vars.length (foldR (runS d) m l).1 (foldR (runS d) m' (cutL q p.vars.length d l)).1 ∧ rel (foldR (runS d) m l).2 = rel (foldR (runS d) m' (cutL q p.vars.length d l)).2
  | 0, l, hok, _, m, m', h => by
    cases l with
    | nil => exact ⟨h, rfl⟩
    | cons a r => have := hok a (by simp); simp [stmtOK] at this
  | d + 1, l, hok, hq, m, m', h => by
    have hone : ∀ s, stmtOK p (d + 1) s = true → subB (addS q p.vars.length (cutL q p.vars.length d) (setN q p.vars.length d) 0 s) q → ∀ m m', AgM q p.vars.length m m' →
        AgM q p.vars.length (runS (d + 1) m s).1 (runO (d + 1) m' (cutS q p.vars.length (cutL q p.vars.length d) s)).1 ∧ rel (runS (d + 1) m s).2 = rel (runO (d + 1) m' (cutS q p.vars.length (cutL q p.vars.length d) s)).2 := fun s hs hq m m' h => by
      obtain ⟨k, t, ix, v, c, b, e⟩ := s
      have hbe := stmtOK_succ hs
      have hex := exprs_of hs
      have hk := head_kind hbe.1
      by_cases h5 : k = 5
      · subst h5
        have ec : cutS q p.vars.length (cutL q p.vars.length d) (.mk 5 t ix v c b e) = some (.mk 5 t ix v c b e) := by simp [cutS]
        simp only [addS, ec, Option.isSome_some, if_true] at hq
        have hv := evalX_ag h hex.2 (subB_or.1 (subB_or.1 hq).2).1
        rw [ec]
        simp only [runO, runS, hv, Int.reduceEq, if_false, if_true, and_true]
        exact h.setV _ _
      by_cases h1 : k = 1
      · subst h1
        cases hqt : q t.toNat with
        | true =>
          have ec : cutS q p.vars.length (cutL q p.vars.length d) (.mk 1 t ix v c b e) = some (.mk 1 t ix v c b e) := by simp [cutS, hqt]
          simp only [addS, ec, Option.isSome_some, if_true] at hq
          have hv := evalX_ag h hex.2 (subB_or.1 (subB_or.1 hq).2).1
          rw [ec]
          simp only [runO, runS, hv, Int.reduceEq, if_false, if_true, and_true]
          exact h.setV _ _
        | false =>
          have ec : cutS q p.vars.length (cutL q p.vars.length d) (.mk 1 t ix v c b e) = none := by simp [cutS, hqt]
          rw [ec]
          simp only [runO, runS, Int.reduceEq, if_false, if_true, rel_eval, rel_nil, and_true]
          exact h.setVl _ hqt
      by_cases h2 : k = 2
      · subst h2
        cases hqt : q (p.vars.length + t.toNat) with
        | true =>
          have ec : cutS q p.vars.length (cutL q p.vars.length d) (.mk 2 t ix v c b e) = some (.mk 2 t ix v c b e) := by simp [cutS, hqt]
          simp only [addS, ec, Option.isSome_some, if_true] at hq
          have hv := evalX_ag h hex.2 (subB_or.1 (subB_or.1 hq).2).1
          have hi := evalX_ag h hex.1 (subB_or.1 (subB_or.1 hq).2).2
          rw [ec]
          simp only [runO, runS, hv, hi, Int.reduceEq, if_false, if_true, and_true]
          exact h.setA _ _ hqt
        | false =>
          have ec : cutS q p.vars.length (cutL q p.vars.length d) (.mk 2 t ix v c b e) = none := by simp [cutS, hqt]
          rw [ec]
          simp only [runO, runS, Int.reduceEq, if_false, if_true, rel_app, rel_eval, rel_nil, List.nil_append]
          exact ⟨h.setAl _ _ hqt, rfl⟩
      have hkk : k = 3 ∨ k = 4 := by omega
      have hqs : subB (setN q p.vars.length d b) q ∧ subB (setN q p.vars.length d e) q := by
        simp only [addS, show ¬ (k = 5 ∨ k = 1 ∨ k = 2) by omega, if_false] at hq
        split at hq
        · exact subB_or.1 (subB_or.1 (subB_or.1 hq).1).2
        · exact subB_or.1 (subB_or.1 hq).2
      have fb := fun m m' h => run_cut p q d b hbe.2.1 hqs.1 m m' h
      have fe := fun m m' h => run_cut p q d e hbe.2.2 hqs.2 m m' h
      have ecs : cutS q p.vars.length (cutL q p.vars.length d) (.mk k t ix v c b e) = if 0 < (cutL q p.vars.length d b).length + (cutL q p.vars.length d e).length then some (.mk k t ix v c (cutL q p.vars.length d b) (cutL q p.vars.length d e)) else none := by simp [cutS, h5, h1, h2]
      by_cases hp : 0 < (cutL q p.vars.length d b).length + (cutL q p.vars.length d e).length
      · rw [if_pos hp] at ecs
        rw [ecs]
        simp only [addS, ecs, Option.isSome_some, if_true] at hq
        have hv := evalX_ag h hex.2 (subB_or.1 (subB_or.1 hq).2).1
        rcases hkk with rfl | rfl
        · simp only [runO, runS, hv, Int.reduceEq, if_false]
          by_cases hne : (evalE m' 5 v).1 ≠ 0
          · simp only [if_pos hne, rel_app]
            have := fb m m' h
            exact ⟨this.1, by rw [this.2]⟩
          · simp only [if_neg hne, rel_app]
            have := fe m m' h
            exact ⟨this.1, by rw [this.2]⟩
        · simp only [runO, runS, if_true]
          exact iter_ag fb _ m m' h
      · rw [if_neg hp] at ecs
        have hb0 := len0 (show ¬ 0 < (cutL q p.vars.length d b).length by omega)
        have he0 := len0 (show ¬ 0 < (cutL q p.vars.length d e).length by omega)
        rw [hb0] at fb
        rw [he0] at fe
        rw [ecs]
        rcases hkk with rfl | rfl
        · simp only [runO, runS, Int.reduceEq, if_false]
          by_cases hne : (evalE m 5 v).1 ≠ 0
          · simp only [if_pos hne, rel_app, rel_eval, rel_nil]
            have := fb m m' h
            simp only [foldR, rel_nil] at this
            exact ⟨this.1, by rw [this.2]; rfl⟩
          · simp only [if_neg hne, rel_app, rel_eval, rel_nil]
            have := fe m m' h
            simp only [foldR, rel_nil] at this
            exact ⟨this.1, by rw [this.2]; rfl⟩
        · simp only [runO, runS, if_true]
          have := iter_ag (f' := fun m => (m, [])) (fun m m' h => fb m m' h) c.toNat m m' h
          rw [iter_nil] at this
          exact this
    simp only [setN] at hq
    have hq2 := ((addS_sub l 0).1 hq).2
    clear hq
    induction l generalizing m m' with
    | nil => exact ⟨h, rfl⟩
    | cons s r ih =>
      have h1 := hone s (hok s (by simp)) (hq2 s (by simp)) m m' h
      simp only [cutL, List.filterMap_cons]
      have ih2 := fun m m' h => ih (fun x hx => hok x (by simp [hx])) m m' h (fun x hx => hq2 x (by simp [hx]))
      simp only [cutL] at ih2
      cases hc : cutS q p.vars.length (cutL q p.vars.length d) s with
      | none =>
        rw [hc] at h1
        simp only [runO, rel_nil] at h1
        have h2 := ih2 _ _ h1.1
        simp only [foldR, rel_app, h1.2, List.nil_append]
        exact h2
      | some s' =>
        rw [hc] at h1
        simp only [runO] at h1
        have h2 := ih2 _ _ h1.1
        simp only [foldR, rel_app, h1.2, h2.2, and_true]
        exact h2.1

/-- With fewer cells, a slice of a slice is the slice. -/
theorem cut_cut {p : Pg} {q q' : Nat → Bool} (hle : leB q' q) : ∀ (d : Nat) (l : List St1), (∀ s ∈ l, stmtOK p d s = true) →
    cutL q' p.vars.length d (cutL q p.vars.length d l) = cutL q' p.vars.length d l ∧ setN q' p.vars.length d (cutL q p.vars.length d l) = setN q' p.vars.length d l
  | 0, l, _ => ⟨rfl, rfl⟩
  | d + 1, l, hok => by
    have hone : ∀ s, stmtOK p (d + 1) s = true → (match cutS q p.vars.length (cutL q p.vars.length d) s with
        | none => cutS q' p.vars.length (cutL q' p.vars.length d) s = none ∧ addS q' p.vars.length (cutL q' p.vars.length d) (setN q' p.vars.length d) 0 s = 0
        | some s' => cutS q' p.vars.length (cutL q' p.vars.length d) s' = cutS q' p.vars.length (cutL q' p.vars.length d) s ∧ addS q' p.vars.length (cutL q' p.vars.length d) (setN q' p.vars.length d) 0 s' = addS q' p.vars.length (cutL q' p.vars.length d) (setN q' p.vars.length d) 0 s) := fun s hs => by
      obtain ⟨k, t, ix, v, c, b, e⟩ := s
      have hbe := stmtOK_succ hs
      by_cases h5 : k = 5
      · have ec : cutS q p.vars.length (cutL q p.vars.length d) (.mk k t ix v c b e) = some (.mk k t ix v c b e) := by simp [cutS, h5]
        rw [ec]; exact ⟨rfl, rfl⟩
      by_cases h1 : k = 1
      · cases hqt : q t.toNat with
        | true =>
          have ec : cutS q p.vars.length (cutL q p.vars.length d) (.mk k t ix v c b e) = some (.mk k t ix v c b e) := by simp [cutS, h1, hqt]
          rw [ec]; exact ⟨rfl, rfl⟩
        | false =>
          have hq2 : q' t.toNat = false := by
            cases hx : q' t.toNat with
            | false => rfl
            | true => rw [hle _ hx] at hqt; cases hqt
          have ec : cutS q p.vars.length (cutL q p.vars.length d) (.mk k t ix v c b e) = none := by simp [cutS, h1, hqt]
          have ec2 : cutS q' p.vars.length (cutL q' p.vars.length d) (.mk k t ix v c b e) = none := by simp [cutS, h1, hq2]
          rw [ec]
          refine ⟨ec2, ?_⟩
          simp only [addS]
          rw [ec2]
          simp [h1]
      by_cases h2 : k = 2
      · cases hqt : q (p.vars.length + t.toNat) with
        | true =>
          have ec : cutS q p.vars.length (cutL q p.vars.length d) (.mk k t ix v c b e) = some (.mk k t ix v c b e) := by simp [cutS, h2, hqt]
          rw [ec]; exact ⟨rfl, rfl⟩
        | false =>
          have hq2 : q' (p.vars.length + t.toNat) = false := by
            cases hx : q' (p.vars.length + t.toNat) with
            | false => rfl
            | true => rw [hle _ hx] at hqt; cases hqt
          have ec : cutS q p.vars.length (cutL q p.vars.length d) (.mk k t ix v c b e) = none := by simp [cutS, h2, hqt]
          have ec2 : cutS q' p.vars.length (cutL q' p.vars.length d) (.mk k t ix v c b e) = none := by simp [cutS, h2, hq2]
          rw [ec]
          refine ⟨ec2, ?_⟩
          simp only [addS]
          rw [ec2]
          simp [h2]
      have ib := cut_cut hle d b hbe.2.1
      have ie := cut_cut hle d e hbe.2.2
      have ecs : ∀ q (b e : List St1), cutS q p.vars.length (cutL q p.vars.length d) (.mk k t ix v c b e) = if 0 < (cutL q p.vars.length d b).length + (cutL q p.vars.length d e).length then some (.mk k t ix v c (cutL q p.vars.length d b) (cutL q p.vars.length d e)) else none := fun q b e => by simp [cutS, h5, h1, h2]
      have eas : ∀ (b e : List St1), addS q' p.vars.length (cutL q' p.vars.length d) (setN q' p.vars.length d) 0 (.mk k t ix v c b e) = if 0 < (cutL q' p.vars.length d b).length + (cutL q' p.vars.length d e).length then (setN q' p.vars.length d b ||| setN q' p.vars.length d e) ||| (occN p.vars.length 5 v ||| occN p.vars.length 5 ix) else setN q' p.vars.length d b ||| setN q' p.vars.length d e := fun b e => by
        simp only [addS, ecs, show ¬ (k = 5 ∨ k = 1 ∨ k = 2) by omega, if_false, Nat.zero_or]
        split <;> simp
      rw [ecs q b e]
      by_cases hp : 0 < (cutL q p.vars.length d b).length + (cutL q p.vars.length d e).length
      · rw [if_pos hp]
        simp only [ecs, eas, ib.1, ib.2, ie.1, ie.2, and_self]
      · rw [if_neg hp]
        have hb0 := len0 (show ¬ 0 < (cutL q p.vars.length d b).length by omega)
        have he0 := len0 (show ¬ 0 < (cutL q p.vars.length d e).length by omega)
        rw [hb0] at ib
        rw [he0] at ie
        have z1 : setN q' p.vars.length d [] = 0 := by cases d <;> simp [setN]
        simp only [ecs, eas, ← ib.1, ← ib.2, ← ie.1, ← ie.2, cutL_nil, z1]
        simp
    have gen : ∀ (l : List St1), (∀ s ∈ l, stmtOK p (d + 1) s = true) → ∀ a, (l.filterMap (cutS q p.vars.length (cutL q p.vars.length d))).filterMap (cutS q' p.vars.length (cutL q' p.vars.length d)) = l.filterMap (cutS q' p.vars.length (cutL q' p.vars.length d)) ∧
        (l.filterMap (cutS q p.vars.length (cutL q p.vars.length d))).foldl (addS q' p.vars.length (cutL q' p.vars.length d) (setN q' p.vars.length d)) a = l.foldl (addS q' p.vars.length (cutL q' p.vars.length d) (setN q' p.vars.length d)) a := fun l => by
      induction l with
      | nil => intro _ a; exact ⟨rfl, rfl⟩
      | cons s r ih =>
        intro hok a
        have h1 := hone s (hok s (by simp))
        have ih := ih fun x hx => hok x (by simp [hx])
        rw [List.filterMap_cons]
        cases hc : cutS q p.vars.length (cutL q p.vars.length d) s with
        | none =>
          rw [hc] at h1
          simp only at h1
          simp only [List.filterMap_cons, List.foldl_cons, h1.1]
          rw [addS_or, h1.2, Nat.or_zero]
          exact ih a
        | some s' =>
          rw [hc] at h1
          simp only at h1
          simp only [List.filterMap_cons, List.foldl_cons, h1.1]
          rw [addS_or _ _ _ _ a s', addS_or _ _ _ _ a s, h1.2]
          refine ⟨?_, (ih _).2⟩
          rw [(ih 0).1]
    simp only [cutL, setN]
    exact gen l hok 0
/-- The least closed set of a program is the least closed set of its slice. -/
theorem Least.slice {p : Pg} {ws : List Bool} {q : Nat → Bool} (hok : ∀ s ∈ p.body, stmtOK p 5 s = true) (h : Least p ws q) : Least (slP p q) ws q := by
  refine ⟨h.want, ?_, fun q' h1 h2 i hi => ?_⟩
  · have := (cut_cut (q := q) (q' := q) (fun i h => h) 5 p.body hok).2
    simp only [slP]
    rw [this]
    exact h.closed
  · have hle : leB (fun i => q' i && q i) q := fun i h => by simp only [Bool.and_eq_true] at h; exact h.2
    have hle' : leB (fun i => q' i && q i) q' := fun i h => by simp only [Bool.and_eq_true] at h; exact h.1
    have e := (cut_cut hle 5 p.body hok).2
    simp only [slP] at h2
    have m1 := (cut_mono p.vars.length hle' 5 (cutL q p.vars.length 5 p.body)).2 q' h2
    rw [e] at m1
    have m2 := (cut_mono p.vars.length hle 5 p.body).2 q h.closed
    have := h.least (fun i => q' i && q i) (fun i hw => by simp only [Bool.and_eq_true]; exact ⟨h1 i hw, h.want i hw⟩) (fun i hb => by simp only [Bool.and_eq_true]; exact ⟨m1 i hb, m2 i hb⟩) i hi
    simp only [Bool.and_eq_true] at this
    exact this.1
theorem slP_slP {p : Pg} {q : Nat → Bool} (hok : ∀ s ∈ p.body, stmtOK p 5 s = true) : slP (slP p q) q = slP p q := by
  have := (cut_cut (q := q) (q' := q) (fun i h => h) 5 p.body hok).1
  unfold slP
  simp only
  rw [this]
end Go.Proofs.Ytclgjiffpijgmaa.CtD

namespace Go.Proofs.Ytclgjiffpijgmaa.CtD
open Go Go.CT CtF CtR

theorem rel_snoc (a : List Ev) (e : Ev) : rel (a ++ [e]) = if e.kind == 4 then rel a ++ [e] else rel a := by
  rw [rel_app]; simp only [rel, List.filter_cons, List.filter_nil]; split <;> simp

set_option maxHeartbeats 8000000 in
set_option maxRecDepth 10000 in
theorem ctReleases (tr : List Ev) (hl : tr.length ≤ 2000000) : DC Try.prog 26 [.c (trD tr)] [] (fun r h => r = .c (trD (rel tr)) ∧ h = []) := by
  have hmx := mx_eq
  have hle : ∀ i, (rel (tr.take i)).length ≤ i := fun i => Nat.le_trans (List.length_filter_le _ _) (by simp; omega)
  generalize hR : (fun (r : D) (h : List (Option (List C))) => r = .c (trD (rel tr)) ∧ h = []) = R
  refine dcZ Try.func26 ?_
  simp (maxSteps := 9999999) (maxDischargeDepth := 300) only [go_sem, trD]
  iterate 2 ((try (refine drvZ Try.func26 ?_; simp (maxSteps := 9999999) (maxDischargeDepth := 300) only [go_sem, trD])); (try ((with_reducible refine And.intro ?_ ?_) <;> (repeat' with_reducible apply And.intro) <;> try exact sd)))
  refine Go.loopQ (fun i : Nat => [(0, .c (trD tr)), (3, .c (.msl 67 2 0 (rel (tr.take i)).length)), (4, DI .i64 i)]) (fun i => [(67, some (trC (rel (tr.take i))))])
    4096 (fun i => i ≤ tr.length) (fun i => tr.length - i) ?_ 0 (fun j => if j = 67 then some 64 else some j) [] _ (Nat.zero_le _) ?_
  · intro i hi again
    have hli := hle i
    rcases Nat.lt_or_ge i tr.length with hlt | hge
    · obtain ⟨⟨k, v⟩, hx⟩ : ∃ x, tr[i]? = some x := ⟨tr[i], by simp [hlt]⟩
      have hs : rel (tr.take (i + 1)) = if k == 4 then rel (tr.take i) ++ [⟨k, v⟩] else rel (tr.take i) := by rw [List.take_add_one, hx]; exact rel_snoc _ _
      have hel := trC_len (rel (tr.take i))
      generalize rel (tr.take i) = T at *
      by_cases hk : k = 4
      · subst hk
        simp only [beq_self_eq_true, if_true] at hs
        refine drvL Try.func26 ?_
        simp (maxSteps := 9999999) (maxDischargeDepth := 300) only [go_sem, trD, Ev.cells, I64, hx, hlt, Int.reduceBEq, Int.reduceEq]
        iterate 4 ((try (refine drvZ Try.func26 ?_; simp (maxSteps := 9999999) (maxDischargeDepth := 300) only [go_sem, trD, Ev.cells, I64, hx, hlt, hel, Int.reduceBEq, Int.reduceEq])); (try ((with_reducible refine And.intro ?_ ?_) <;> (repeat' with_reducible apply And.intro) <;> try exact sd)))
        refine again (i + 1) (fun j => if j = 67 then some 5120 else some j) [] _ hlt (by omega) ?_
        simp (maxSteps := 9999999) (maxDischargeDepth := 300) only [go_sem, TmOK, DM, DMs, CM, CMs, forall_eq, exists_eq_left, Mq, HpOK, LowOK, trD, hs, trC_snoc, List.length_append]
        simp
        exact CMs.kf (kf_app (trC_kf _) (by simp [kf]))
      · have e1 : (k == 4) = false := by simp [hk]
        simp only [e1, Bool.false_eq_true, if_false] at hs
        refine drvL Try.func26 ?_
        simp (maxSteps := 9999999) (maxDischargeDepth := 300) only [go_sem, trD, Ev.cells, I64, hx, hlt, e1, hk]
        iterate 4 ((try (refine drvZ Try.func26 ?_; simp (maxSteps := 9999999) (maxDischargeDepth := 300) only [go_sem, trD, Ev.cells, I64, hx, hlt, hel, e1, hk])); (try ((with_reducible refine And.intro ?_ ?_) <;> (repeat' with_reducible apply And.intro) <;> try exact sd)))
        refine again (i + 1) some [] _ hlt (by omega) ?_
        simp (maxSteps := 9999999) (maxDischargeDepth := 300) only [go_sem, TmOK, DM, DMs, CM, CMs, forall_eq, exists_eq_left, Mq, HpOK, LowOK, trD, hs]
        simp
        exact CMs.kf (trC_kf _)
    · have hn : ¬ i < tr.length := by omega
      obtain rfl : i = tr.length := by omega
      refine drvL Try.func26 ?_
      simp (maxSteps := 9999999) (maxDischargeDepth := 300) only [go_sem, trD, hn, List.take_length]
      iterate 2 ((try (refine drvZ Try.func26 ?_; simp (maxSteps := 9999999) (maxDischargeDepth := 300) only [go_sem, trD, hn, List.take_length])); (try ((with_reducible refine And.intro ?_ ?_) <;> (repeat' with_reducible apply And.intro) <;> try exact sd)))
      refine RetOb.ofQ (fun j => none) [67] (.c (trD (rel tr))) [] ?_ (by rw [← hR]; exact ⟨rfl, rfl⟩) (by simp)
      simp [enumL, hOf, DM, DMs, CM, CMs, HpOK, LowOK, upd, trD, trC, kf, Ev.cells]
  · simp (maxSteps := 9999999) (maxDischargeDepth := 300) only [go_sem, TmOK, DM, DMs, CM, CMs, forall_eq, exists_eq_left, Mq, HpOK, LowOK, trD]
    simp [trC, rel, CMs]
end Go.Proofs.Ytclgjiffpijgmaa.CtD

namespace Go.Proofs.Ytclgjiffpijgmaa.CtR
open Go Go.CT CtF

def cntB (x : Nat) : List C := [I64 x]
set_option maxRecDepth 10000 in
theorem count1 (x : Nat) (hx : x < 1000) (s : St1) (c : Nat) : DC Try.prog 89 [.agg s.cells, DI .i64 c, .c (.ptr 0 0)] [some (cntB x)] (fun r h => r = .tup [] ∧ h = [some (cntB (x + 1))]) := by
  generalize hR : (fun (r : D) (h : List (Option (List C))) => r = .tup [] ∧ h = [some (cntB (x + 1))]) = R
  obtain ⟨k, t, ⟨ik, iv, iks⟩, ⟨vk, vv, vks⟩, cc, b, e⟩ := s
  simp only [cntB] at hR ⊢
  refine dcZ Try.func89 ?_
  simp (maxSteps := 9999999) (maxDischargeDepth := 300) only [go_sem]
  iterate 2 ((try (refine drvZ Try.func89 ?_; simp (maxSteps := 9999999) (maxDischargeDepth := 300) only [go_sem])); (try ((with_reducible refine And.intro ?_ ?_) <;> (repeat' with_reducible apply And.intro) <;> try exact sd)))
  refine RetOb.ofQ some [] (.tup []) [some [I64 ((x : Int) + 1)]] ?_ (by rw [← hR]; exact ⟨rfl, rfl⟩) (by simp)
  simp [enumL, DMs, DM, HpOK, LowOK, hOf, upd, CM, CMs, hpL]
theorem eachF_cnt (vs ar : List Int) : ∀ (d c x : Nat) (l : List St1), eachF vs ar (fun x _ _ => x + 1) d c x l = x + lsize d l
  | 0, c, x, l => by rw [lsize_zero]; rfl
  | d + 1, c, x, l => by
    have key : ∀ (l : List St1) (x : Nat), l.foldl (fun x s => eachF vs ar (fun x _ _ => x + 1) d (ctxI vs ar s c) (eachF vs ar (fun x _ _ => x + 1) d (ctxI vs ar s c) (x + 1) s.body) s.els) x = x + lsize (d + 1) l := by
      intro l
      induction l with
      | nil => intro x; rfl
      | cons a r ih =>
        intro x
        rw [List.foldl_cons, ih, eachF_cnt vs ar d, eachF_cnt vs ar d]
        have := tsize_subs d a
        simp only [subs] at this
        simp only [lsize, List.map_cons, List.sum_cons] at this ⊢
        omega
    exact key l x
def cntP (p : Pg) : Nat := if progOK p then lsize 5 p.body else 0

set_option maxHeartbeats 4000000 in
set_option maxRecDepth 10000 in
theorem countStmts (p : Pg) (hl : p.vars.length ≤ mx) (hl2 : p.arrays.length ≤ mx) : DC Try.prog 42 [.agg p.cells] [] (fun r h => r = DI .i64 (cntP p) ∧ h = []) := by
  have hmx := mx_eq
  have hv := programValidI p hl hl2
  generalize hR : (fun (r : D) (h : List (Option (List C))) => r = DI .i64 (cntP p) ∧ h = []) = R
  cases hq : progOK p with
  | false =>
    rw [hq] at hv
    have hw : cntP p = 0 := by unfold cntP; rw [hq]; rfl
    obtain ⟨vs, ar, bd⟩ := p
    refine dcZ Try.func42 ?_
    simp (maxSteps := 9999999) (maxDischargeDepth := 300) only [go_sem]
    ((try (refine drvZ Try.func42 ?_; simp (maxSteps := 9999999) (maxDischargeDepth := 300) only [go_sem])); (try ((with_reducible refine And.intro ?_ ?_) <;> (repeat' with_reducible apply And.intro) <;> try exact sd)))
    refine XK.plain hv ok44 ?_ (hbT ())
    iterate 3 ((try (refine drvZ Try.func42 ?_; simp (maxSteps := 9999999) (maxDischargeDepth := 300) only [go_sem])); (try ((with_reducible refine And.intro ?_ ?_) <;> (repeat' with_reducible apply And.intro) <;> try exact sd)))
    refine RetOb.ofQ (fun _ => none) [] (DI .i64 0) [] ?_ (by rw [← hR, hw]; exact ⟨rfl, rfl⟩) (by simp)
    simp [enumL, DM, DMs, CM, HpOK, LowOK]
  | true =>
    rw [hq] at hv
    have hlab := labs_of hq
    have hbo := body_of hq
    have hea := (each1 p hl hl2 hlab.1 hlab.2 89 ok89 cntB (fun x r h => by simp [cntB, renCs, renC]) (fun x hT hS fz h => by simp [cntB, CMs, CM]) (fun x _ _ => x + 1)
      (fun q x => x = q) (fun d x s c q hq hx _ _ => ⟨by omega, count1 x (by omega) s c⟩) 5 p.body 0 0 0 rfl (by decide) hbo.1 (by have := hbo.2; omega)).2
    rw [eachF_cnt, Nat.zero_add] at hea
    have hw : cntP p = lsize 5 p.body := by unfold cntP; rw [hq]; rfl
    rw [← hw] at hea
    generalize cntP p = w at *
    obtain ⟨vs, ar, bd⟩ := p
    simp only [cntB] at hea
    refine dcZ Try.func42 ?_
    simp (maxSteps := 9999999) (maxDischargeDepth := 300) only [go_sem]
    ((try (refine drvZ Try.func42 ?_; simp (maxSteps := 9999999) (maxDischargeDepth := 300) only [go_sem])); (try ((with_reducible refine And.intro ?_ ?_) <;> (repeat' with_reducible apply And.intro) <;> try exact sd)))
    refine XK.plain hv ok44 ?_ (hbT ())
    iterate 4 ((try (refine drvZ Try.func42 ?_; simp (maxSteps := 9999999) (maxDischargeDepth := 300) only [go_sem])); (try ((with_reducible refine And.intro ?_ ?_) <;> (repeat' with_reducible apply And.intro) <;> try exact sd)))
    refine XK.callG [320] hea ok52 (hhp_one (by simp [upd, renCs, renC])) (hbT ()) (fun d h' ⟨_, e⟩ => by subst e; simp) ?_
    rintro _ _ ⟨rfl, rfl⟩ _
    iterate 4 ((try (refine drvZ Try.func42 ?_; simp (maxSteps := 9999999) (maxDischargeDepth := 300) only [go_sem])); (try ((with_reducible refine And.intro ?_ ?_) <;> (repeat' with_reducible apply And.intro) <;> try exact sd)))
    exact RetOb.plain (d := DI .i64 _) (by rw [← hR]; exact ⟨rfl, rfl⟩) rfl
end Go.Proofs.Ytclgjiffpijgmaa.CtR

namespace Go.Proofs.Ytclgjiffpijgmaa.CtD
open Go Go.CT CtF CtR

/-- A slice's run: the same on the set's cells, with the same releases. -/
theorem slice_same {p : Pg} {q : Nat → Bool} (hok : progOK p = true) (hc : subB (setN q p.vars.length 5 p.body) q) (m : Mm) :
    (runP (slP p q) m).2.2 = (runP p m).2.2 ∧ ((runP p m).2.2 = true → (AgM q p.vars.length (runP p m).1 (runP (slP p q) m).1 ∧ rel (runP p m).2.1 = rel (runP (slP p q) m).2.1) ∧ MemFits p (runP p m).1) := by
  have h2 := slP_ok q hok
  cases hm : memOK p.vars p.arrays m with
  | false =>
    have e1 : (progOK p && memOK p.vars p.arrays m) = false := by rw [hm]; simp
    have e2 : (progOK (slP p q) && memOK (slP p q).vars (slP p q).arrays m) = false := by
      rw [show memOK (slP p q).vars (slP p q).arrays m = memOK p.vars p.arrays m from rfl, hm]; simp
    rw [runP_false e1, runP_false e2]
    exact ⟨rfl, fun h => by cases h⟩
  | true =>
    rw [runP_of hok hm, runP_of h2 (show memOK (slP p q).vars (slP p q).arrays m = true from hm)]
    have hr := run_cut p q 5 p.body (body_of hok).1 hc m m (AgM.refl _ _ _)
    have ho := memFits_of (p := p) (by rw [hok, runP_out hok hm]; rfl)
    exact ⟨rfl, fun _ => ⟨hr, ho⟩⟩
theorem cnt_le {p : Pg} (q : Nat → Bool) (hok : progOK p = true) : cntP (slP p q) ≤ cntP p := by
  unfold cntP
  rw [slP_ok q hok, hok]
  exact (cut_ok (nv := p.vars.length) (q := q) 5 p.body (body_of hok).1).2 5

set_option maxHeartbeats 16000000 in
set_option maxRecDepth 10000 in
theorem lawSP (bs : List Int) (hb : Fits .u8 bs) (hl : bs.length ≤ mx) : DC Try.prog 12 [bytesD bs] [] (fun d h => d = DB true ∧ h = []) := by
  have hmx := mx_eq
  have hds := drawSliceProgram bs hb hl
  have hdm := drawRunProgram bs hb hl
  unfold bytesD
  unfold bytesD at hdm hds
  have ret : ∀ hp : Hp, RetOb 0 (fun d h => d = DB true ∧ h = []) (DB true) hp := fun hp => RetOb.plain (d := DB true) ⟨rfl, rfl⟩ rfl
  have hps0 := programSame ⟨[], [], []⟩ (by simp) (by simp) (by simp) (by simp)
  generalize hRR : (fun (d : D) (h : List (Option (List C))) => d = DB true ∧ h = []) = R at ret ⊢
  by_cases hbig : 1048576 < bs.length
  · have hz : ((1048576 : Int) < (bs.length : Int)) = True := eq_true (by omega)
    refine dcZ Try.func12 ?_
    simp (maxSteps := 9999999) (maxDischargeDepth := 300) only [go_sem, hz]
    iterate 2 ((try (refine drvZ Try.func12 ?_; simp (maxSteps := 9999999) (maxDischargeDepth := 300) only [go_sem, hz])); (try ((with_reducible refine And.intro ?_ ?_) <;> (repeat' with_reducible apply And.intro) <;> try exact sd)))
    exact ret _
  have hz : ((1048576 : Int) < (bs.length : Int)) = False := eq_false (by omega)
  refine dcZ Try.func12 ?_
  simp (maxSteps := 9999999) (maxDischargeDepth := 300) only [go_sem, hz]
  iterate 2 ((try (refine drvZ Try.func12 ?_; simp (maxSteps := 9999999) (maxDischargeDepth := 300) only [go_sem, hz])); (try ((with_reducible refine And.intro ?_ ?_) <;> (repeat' with_reducible apply And.intro) <;> try exact sd)))
  refine XK.callG [] hds ok32 (fun i' x h => by simp at h) (hbT ()) (fun d h' ⟨_, _, _, _, _, e⟩ => by subst e; simp) ?_
  rintro _ _ ⟨p, ws, rfl, hp, hw, rfl⟩ _
  have hv1 : p.vars.length ≤ 13 := hp.nv
  have ha1 : p.arrays.length ≤ 2 := hp.na
  have hI := sliceProgI p ws (by omega) (by omega) (by omega)
  have hS := sliceProgS p ws (by omega) (by omega) (by have := hp.sz 5; omega) (by omega)
  have hrI := fun m => runProgI p m (by omega) (by omega)
  have hcs := countStmts p (by omega) (by omega)
  cases hq : (progOK p && decide (ws.length = p.vars.length + p.arrays.length)) with
  | false =>
    have cv : ∀ F, DC Try.prog F [.agg p.cells, .c (boolsD ws)] [] (sliR p ws) → DC Try.prog F [.agg p.cells, .c (boolsD ws)] [] (fun r h => r = .tup [.agg (Pg.cells ⟨[], [], []⟩), DB false] ∧ h = []) := fun F h0 => dcMono h0 fun r h ⟨h1, h2⟩ => by
      rcases h2 with ⟨hc, _⟩ | ⟨_, e⟩
      · rw [hq] at hc; cases hc
      · exact ⟨e, h1⟩
    have hI := cv _ hI
    have hS := cv _ hS
    clear cv
    obtain ⟨vs, ar, bd⟩ := p
    iterate 3 ((try (refine drvZ Try.func12 ?_; simp (maxSteps := 9999999) (maxDischargeDepth := 300) only [go_sem, boolsD])); (try ((with_reducible refine And.intro ?_ ?_) <;> (repeat' with_reducible apply And.intro) <;> try exact sd)))
    refine XK.callG [] hdm ok28 (fun i' x h => by simp at h) (hbT ()) (fun d h' ⟨_, _, _, _, _, e⟩ => by subst e; simp) ?_
    rintro _ _ ⟨⟨vs2, ar2, bd2⟩, ⟨va, arr⟩, rfl, hp2, hm2, rfl⟩ _
    iterate 3 ((try (refine drvZ Try.func12 ?_; simp (maxSteps := 9999999) (maxDischargeDepth := 300) only [go_sem, boolsD, Mm.cells])); (try ((with_reducible refine And.intro ?_ ?_) <;> (repeat' with_reducible apply And.intro) <;> try exact sd)))
    refine XK.callG [] hI ok33 (fun i' x h => by simp at h) (hbT ()) (fun d h' ⟨_, e⟩ => by subst e; simp) ?_
    rintro _ _ ⟨rfl, rfl⟩ _
    iterate 3 ((try (refine drvZ Try.func12 ?_; simp (maxSteps := 9999999) (maxDischargeDepth := 300) only [go_sem, boolsD, Mm.cells])); (try ((with_reducible refine And.intro ?_ ?_) <;> (repeat' with_reducible apply And.intro) <;> try exact sd)))
    refine XK.callG [] hS ok34 (fun i' x h => by simp at h) (hbT ()) (fun d h' ⟨_, e⟩ => by subst e; simp) ?_
    rintro _ _ ⟨rfl, rfl⟩ _
    iterate 3 ((try (refine drvZ Try.func12 ?_; simp (maxSteps := 9999999) (maxDischargeDepth := 300) only [go_sem, boolsD, Mm.cells])); (try ((with_reducible refine And.intro ?_ ?_) <;> (repeat' with_reducible apply And.intro) <;> try exact sd)))
    refine XK.gplain 3 false true (fun _ => hps0) ok35 ?_ (hbT ())
    iterate 4 ((try (refine drvZ Try.func12 ?_; simp (maxSteps := 9999999) (maxDischargeDepth := 300) only [go_sem, boolsD, Mm.cells])); (try ((with_reducible refine And.intro ?_ ?_) <;> (repeat' with_reducible apply And.intro) <;> try exact sd)))
    refine XK.gplain 3 true true (fun _ => hps0) ok35 ?_ (hbT ())
    iterate 3 ((try (refine drvZ Try.func12 ?_; simp (maxSteps := 9999999) (maxDischargeDepth := 300) only [go_sem, boolsD, Mm.cells])); (try ((with_reducible refine And.intro ?_ ?_) <;> (repeat' with_reducible apply And.intro) <;> try exact sd)))
    exact ret _
  | true =>
    have hq2 : progOK p = true ∧ ws.length = p.vars.length + p.arrays.length := by simpa using hq
    obtain ⟨hok, hwl⟩ := hq2
    have cv : ∀ F, DC Try.prog F [.agg p.cells, .c (boolsD ws)] [] (sliR p ws) → DC Try.prog F [.agg p.cells, .c (boolsD ws)] [] (fun r h => (∃ q, Least p ws q ∧ r = .tup [.agg (Pg.cells (slP p q)), DB true]) ∧ h = []) := fun F h0 => dcMono h0 fun r h ⟨h1, h2⟩ => by
      rcases h2 with ⟨_, q, hl, e⟩ | ⟨hc, _⟩
      · exact ⟨⟨q, hl, e⟩, h1⟩
      · rw [hq] at hc; cases hc
    have hI := cv _ hI
    have hS := cv _ hS
    clear cv
    have hslok := fun q => slP_ok (p := p) q hok
    have hps := fun q => programSame (slP p q) (show p.vars.length ≤ mx by omega) (show p.arrays.length ≤ mx by omega) (by have h1 := (body_of (hslok q)).2; have h2 : lsize 5 (slP p q).body = _ := lsize_subs 4 (slP p q).body; omega) (sameBody (hslok q))
    have hsame := fun q h m => slice_same (p := p) (q := q) hok h m
    have hrS := fun q m => runProgI (slP p q) m (show p.vars.length ≤ mx by omega) (show p.arrays.length ≤ mx by omega)
    have hsm := fun m => runP_sm p m
    have hsm2 := fun q m => runP_sm (slP p q) m
    have hclo := fun q => @Least.closed p ws q
    have hwan := fun q => @Least.want p ws q
    have heq := fun q q' => @Least.eq p ws q q'
    have hcs2 := fun q => countStmts (slP p q) (show p.vars.length ≤ mx by omega) (show p.arrays.length ≤ mx by omega)
    have hcle := fun q => cnt_le (p := p) q hok
    have hv := hv1
    have ha := ha1
    clear hslok hq
    generalize hLw : Least p ws = Lw at *
    generalize hCp : cntP p = cp at *
    obtain ⟨vs, ar, bd⟩ := p
    have hslv : ∀ q, slP ⟨vs, ar, bd⟩ q = ⟨vs, ar, cutL q vs.length 5 bd⟩ := fun _ => rfl
    simp only [hslv] at *
    have hmx := mx_eq
    iterate 3 ((try (refine drvZ Try.func12 ?_; simp (maxSteps := 9999999) (maxDischargeDepth := 300) only [go_sem, boolsD])); (try ((with_reducible refine And.intro ?_ ?_) <;> (repeat' with_reducible apply And.intro) <;> try exact sd)))
    refine XK.callG [] hdm ok28 (fun i' x h => by simp at h) (hbT ()) (fun d h' ⟨_, _, _, _, _, e⟩ => by subst e; simp) ?_
    rintro _ _ ⟨⟨vs2, ar2, bd2⟩, m, rfl, hp2, hm2, rfl⟩ _
    have hrI := hrI m
    have hsm := hsm m
    have hsame := fun q h => hsame q h m
    have hrS := fun q => hrS q m
    have hsm2 := fun q => hsm2 q m
    obtain ⟨va, arr⟩ := m
    iterate 3 ((try (refine drvZ Try.func12 ?_; simp (maxSteps := 9999999) (maxDischargeDepth := 300) only [go_sem, boolsD, Mm.cells])); (try ((with_reducible refine And.intro ?_ ?_) <;> (repeat' with_reducible apply And.intro) <;> try exact sd)))
    refine XK.callG [] hI ok33 (fun i' x h => by simp at h) (hbT ()) (fun d h' ⟨_, e⟩ => by subst e; simp) ?_
    rintro _ _ ⟨⟨q, hLq, rfl⟩, rfl⟩ _
    iterate 3 ((try (refine drvZ Try.func12 ?_; simp (maxSteps := 9999999) (maxDischargeDepth := 300) only [go_sem, boolsD, Mm.cells])); (try ((with_reducible refine And.intro ?_ ?_) <;> (repeat' with_reducible apply And.intro) <;> try exact sd)))
    refine XK.callG [] hS ok34 (fun i' x h => by simp at h) (hbT ()) (fun d h' ⟨_, e⟩ => by subst e; simp) ?_
    rintro _ _ ⟨⟨q', hLq', rfl⟩, rfl⟩ _
    obtain rfl := heq _ _ hLq hLq'
    have hps := hps q
    have hrS := hrS q
    have hsm2 := hsm2 q
    have hcs2 := hcs2 q
    have hcle := hcle q
    have hsame := hsame q (hclo q hLq)
    have hwan := hwan q hLq
    generalize cutL q vs.length 5 bd = cb at *
    generalize cntP ⟨vs, ar, cb⟩ = cc at *
    generalize runP ⟨vs, ar, bd⟩ ⟨va, arr⟩ = r1 at *
    generalize runP ⟨vs, ar, cb⟩ ⟨va, arr⟩ = r2 at *
    obtain ⟨⟨vx, ax⟩, t1, o1⟩ := r1
    obtain ⟨⟨vy, ay⟩, t2, o2⟩ := r2
    simp only at hsame hsm hsm2
    obtain ⟨rfl, hsame⟩ := hsame
    iterate 3 ((try (refine drvZ Try.func12 ?_; simp (maxSteps := 9999999) (maxDischargeDepth := 300) only [go_sem, boolsD, Mm.cells])); (try ((with_reducible refine And.intro ?_ ?_) <;> (repeat' with_reducible apply And.intro) <;> try exact sd)))
    refine XK.gplain 3 false true (fun _ => hps) ok35 ?_ (hbT ())
    iterate 4 ((try (refine drvZ Try.func12 ?_; simp (maxSteps := 9999999) (maxDischargeDepth := 300) only [go_sem, boolsD, Mm.cells, bne_self_eq_false, Bool.not_false])); (try ((with_reducible refine And.intro ?_ ?_) <;> (repeat' with_reducible apply And.intro) <;> try exact sd)))
    refine XK.callG [] hrI ok22 (fun i' x h => by simp at h) (hbT ()) (fun d h' ⟨_, e⟩ => by subst e; simp) ?_
    rintro _ _ ⟨rfl, rfl⟩ _
    iterate 3 ((try (refine drvZ Try.func12 ?_; simp (maxSteps := 9999999) (maxDischargeDepth := 300) only [go_sem, Mm.cells, trD])); (try ((with_reducible refine And.intro ?_ ?_) <;> (repeat' with_reducible apply And.intro) <;> try exact sd)))
    refine XK.callG [] hrS ok22 (fun i' x h => by simp at h) (hbT ()) (fun d h' ⟨_, e⟩ => by subst e; simp) ?_
    rintro _ _ ⟨rfl, rfl⟩ _
    cases o2 with
    | false =>
      iterate 4 ((try (refine drvZ Try.func12 ?_; simp (maxSteps := 9999999) (maxDischargeDepth := 300) only [go_sem, Mm.cells, trD])); (try ((with_reducible refine And.intro ?_ ?_) <;> (repeat' with_reducible apply And.intro) <;> try exact sd)))
      exact ret _
    | true =>
      obtain ⟨⟨hag, hrel⟩, hfit⟩ := hsame rfl
      have n1 : vx.length = vs.length := hfit.nv
      have n2 : vy.length = vs.length := hag.lv.symm.trans n1
      have n3 : ax.length = ar.length := hfit.na
      have n4 : ay.length = ar.length := hag.la.symm.trans n3
      have n5 : ∀ a ∈ ax, a.length = 4 := fun a h => (hfit.arr a h).1
      have hv5 := hag.val
      have ha5 := hag.arr
      simp only at hv5 ha5
      have hr1 := ctReleases t1 (by omega)
      have hr2 := ctReleases t2 (by omega)
      rw [← hrel] at hr2
      have hts := traceSame (rel t1) (rel t1) (by have := List.length_filter_le (fun e => e.kind == 4) t1; unfold rel; omega)
      rw [trSame_refl] at hts
      generalize rel t1 = rt at *
      clear hdm hds hI hS hrI hrS hps hps0 hsame hag hfit
      iterate 4 ((try (refine drvZ Try.func12 ?_; simp (maxSteps := 9999999) (maxDischargeDepth := 300) only [go_sem, Mm.cells, trD])); (try ((with_reducible refine And.intro ?_ ?_) <;> (repeat' with_reducible apply And.intro) <;> try exact sd)))
      refine Go.loopQ (fun i : Nat => [(3, .c (.ptr 576 0)), (4, .c (boolsD ws)), (7, .c (.ptr 1728 0)), (11, .c (.ptr 3776 0)), (12, .c (trD t1)), (14, .c (.ptr 4480 0)), (15, .c (trD t2)), (17, DI .i64 i)])
        (fun _ => [(576, some (Pg.cells ⟨vs, ar, bd⟩)), (1728, some (Pg.cells ⟨vs, ar, cb⟩)), (3776, some (Mm.cells ⟨vx, ax⟩)), (4480, some (Mm.cells ⟨vy, ay⟩))]) 8192 (fun i => i ≤ ws.length) (fun i => ws.length - i) ?_ 0 some [] _ (Nat.zero_le _) ?_
      · intro i hi again
        rcases Nat.lt_or_ge i ws.length with hlt | hge
        · obtain ⟨b, hbx⟩ : ∃ b, ws[i]? = some b := ⟨ws[i], by simp [hlt]⟩
          have hqi := fun h => hwan i h
          have hgd : ws.getD i false = b := by rw [List.getD_eq_getElem?_getD, hbx]; rfl
          cases b with
          | false =>
            refine drvL Try.func12 ?_
            simp (maxSteps := 9999999) (maxDischargeDepth := 300) only [go_sem, Mm.cells, boolsD, BC, hbx, hlt]
            iterate 4 ((try (refine drvZ Try.func12 ?_; simp (maxSteps := 9999999) (maxDischargeDepth := 300) only [go_sem, Mm.cells, boolsD, BC, hbx, hlt])); (try ((with_reducible refine And.intro ?_ ?_) <;> (repeat' with_reducible apply And.intro) <;> try exact sd)))
            refine again (i + 1) some [] _ hlt (by omega) ?_
            simp (maxSteps := 9999999) (maxDischargeDepth := 300) only [go_sem, TmOK, DM, DMs, CM, CMs, forall_eq, exists_eq_left, Mq, HpOK, LowOK, Mm.cells, boolsD, BC, trD]
            try simp
          | true =>
            have hqi := hqi hgd
            rcases Nat.lt_or_ge i vs.length with hv | hv
            · obtain ⟨u, hu⟩ : ∃ u, vx[i]? = some u := ⟨vx[i]'(by omega), by simp⟩
              have hu2 : vy[i]? = some u := by rw [← hv5 i hv hqi]; exact hu
              have e0 : ((i : Int) - (vs.length : Int)).toNat = 0 := by omega
              have hz : ((vs.length : Int) ≤ (i : Int)) = False := eq_false (by omega)
              rcases hax : ax[0]? with _ | w1 <;> rcases hay : ay[0]? with _ | w2
              all_goals
                refine drvL Try.func12 ?_
                simp (maxSteps := 9999999) (maxDischargeDepth := 300) only [go_sem, Mm.cells, boolsD, BC, hbx, hlt]
                iterate 9 ((try (refine drvZ Try.func12 ?_; simp (maxSteps := 9999999) (maxDischargeDepth := 300) only [go_sem, Mm.cells, boolsD, BC, hbx, hlt, hv, hu, hu2, e0, hax, hay, hz, bne_self_eq_false])); (try ((with_reducible refine And.intro ?_ ?_) <;> (repeat' with_reducible apply And.intro) <;> try exact sd)); (try first | refine XK.gs (DB true) ?_))
                refine again (i + 1) some [] _ hlt (by omega) ?_
                simp (maxSteps := 9999999) (maxDischargeDepth := 300) only [go_sem, TmOK, DM, DMs, CM, CMs, forall_eq, exists_eq_left, Mq, HpOK, LowOK, Mm.cells, boolsD, BC, trD]
                try simp
            · have hn : ¬ i < vs.length := by omega
              have hja : i - vs.length < ax.length := by omega
              obtain ⟨u, hu⟩ : ∃ u, ax[i - vs.length]? = some u := ⟨ax[i - vs.length], by simp [hja]⟩
              have hu2 : ay[i - vs.length]? = some u := by rw [← ha5 (i - vs.length) (by rw [show vs.length + (i - vs.length) = i from by omega]; exact hqi)]; exact hu
              have hu4 := n5 u (List.mem_of_getElem? hu)
              have hct := ctInts u u (by omega)
              simp only [decide_true] at hct
              have e0 : ((i : Int) - (vs.length : Int)).toNat = i - vs.length := by omega
              have hz : ((vs.length : Int) ≤ (i : Int)) = True := eq_true (by omega)
              have m1 : vx[i]? = none := List.getElem?_eq_none (by omega)
              have m2 : vy[i]? = none := List.getElem?_eq_none (by omega)
              refine drvL Try.func12 ?_
              simp (maxSteps := 9999999) (maxDischargeDepth := 300) only [go_sem, Mm.cells, boolsD, BC, hbx, hlt]
              iterate 9 ((try (refine drvZ Try.func12 ?_; simp (maxSteps := 9999999) (maxDischargeDepth := 300) only [go_sem, Mm.cells, boolsD, BC, hbx, hlt, hn, hu, hu2, e0, hz, m1, m2, bne_self_eq_false])); (try ((with_reducible refine And.intro ?_ ?_) <;> (repeat' with_reducible apply And.intro) <;> try exact sd)); (try first | refine XK.p hct ok27 ?_ | refine XK.gp hct ok27 ?_))
              refine again (i + 1) some [] _ hlt (by omega) ?_
              simp (maxSteps := 9999999) (maxDischargeDepth := 300) only [go_sem, TmOK, DM, DMs, CM, CMs, forall_eq, exists_eq_left, Mq, HpOK, LowOK, Mm.cells, boolsD, BC, trD]
              try simp
        · have hn : ¬ i < ws.length := by omega
          have hc2 : ((cc : Int) ≤ (cp : Int)) = True := eq_true (by omega)
          refine drvL Try.func12 ?_
          simp (maxSteps := 9999999) (maxDischargeDepth := 300) only [go_sem, Mm.cells, boolsD, BC, hn, trD]
          iterate 6 ((try (refine drvZ Try.func12 ?_; simp (maxSteps := 9999999) (maxDischargeDepth := 300) only [go_sem, Mm.cells, boolsD, BC, hn, trD])); (try ((with_reducible refine And.intro ?_ ?_) <;> (repeat' with_reducible apply And.intro) <;> try exact sd)); (try first | refine XK.p hr1 ok26 ?_ | refine XK.gp hr1 ok26 ?_ | refine XK.p hr2 ok26 ?_ | refine XK.gp hr2 ok26 ?_ | refine XK.p hts ok23 ?_ | refine XK.gp hts ok23 ?_ | refine XK.p hcs2 ok42 ?_ | refine XK.gp hcs2 ok42 ?_ | refine XK.p hcs ok42 ?_ | refine XK.gp hcs ok42 ?_))
          iterate 2 ((try (refine drvZ Try.func12 ?_; simp (maxSteps := 9999999) (maxDischargeDepth := 300) only [go_sem, Mm.cells, boolsD, BC, hn, trD, hc2])); (try ((with_reducible refine And.intro ?_ ?_) <;> (repeat' with_reducible apply And.intro) <;> try exact sd)))
          exact ret _
      · simp (maxSteps := 9999999) (maxDischargeDepth := 300) only [go_sem, TmOK, DM, DMs, CM, CMs, forall_eq, exists_eq_left, Mq, HpOK, LowOK, Mm.cells, boolsD, BC, trD]
        try simp
end Go.Proofs.Ytclgjiffpijgmaa.CtD

namespace Go.Proofs.Ytclgjiffpijgmaa.fnSliceProgram
open Go.ChangeShapes Go.WideShapes Go.ChangeAt Go.RowKit
open Go.ChangeMaps (open_string shut_string)

theorem own : ownKnob Try.prog.godebug = none := by kernel_rfl
theorem laidOut : laidOutB Try.prog = true := by kernel_rfl
theorem bytes5 : Try.prog.bytesOf 5 = 1 := by kernel_rfl

set_option maxRecDepth 100000 in
theorem lifted (os : Os) (started : os.Started) (H : Type) (enc : TypeId × Value → H) :
    ReturnsInHanded {} Try.checked os 12 .any (Rows.fnSliceProgramSpec.pre6 enc Try.prog Try.f12 Rows.fnSliceProgramRow.domain false) (Rows.fnSliceProgramSpec.post enc Try.prog Try.f12 false true false false) := by
  refine returnsInHanded_of_change_sized (C := Try.checked) own started (by kernel_rfl) Try.func12
    (ChangeSpec.witness6 (enc := enc) (C := Try.checked) false ⟨#[], #[.slice none 0 0], []⟩ 8 (by kernel_rfl) (by kernel_rfl) (by kernel_rfl) (by kernel_rfl)) ?_
  intro W base args ds gs before hval0 hW hcnd hsz0 _
  have hval : ∀ (j : Nat) t v, Try.f12.params[j]? = some t → args[j]? = some v → Value.okWide Try.prog W .any base t v := hval0
  have hsz : (DataW.weightsEach Try.prog (Try.f12.params.toList ++ Rows.fnSliceProgramSpec.plain.varTypes Try.prog) (ds ++ gs)).all (· ≤ reachBytes) = true := hsz0
  have hW' := hW
  obtain ⟨p, q, hA0, hV, rfl, hfz, hnd⟩ := hW
  have hA : DataW.TrodAll enc Try.prog W 0 (fun _ => true) true Try.f12.params.toList args.toList ds p := hA0
  rw [Try.params12] at hA hval hsz
  obtain ⟨v0, vs0, d0, ds0, p0, q0, hargs, rfl, rfl, h0, r0⟩ := trodAll_cons hA
  obtain ⟨rfl, rfl, rfl⟩ := trodAll_nil r0
  obtain rfl : args = #[v0] := by cases args; simp_all
  obtain ⟨rfl, rfl⟩ := trodVars_none hV
  obtain ⟨a0, len0, cap0, rfl⟩ := okWide_slice Try.underlying22 (hval 0 22 v0 rfl rfl)
  have k0 := h0
  have lt0 : ∀ x ∈ p0, x.block < W.heap.size := by obtain ⟨m, hm⟩ := k0; exact DataW.trod_lt m _ _ _ hm
  obtain ⟨z0, w0, m0⟩ : ∃ zs, Go.CT.IsRow .u8 W a0 len0 cap0 zs ∧ len0 ≤ Go.CT.mx := by
    obtain ⟨fuel, hf⟩ := h0
    rcases open_ints Try.underlying22 Try.underlying5 (by kernel_rfl) hf with ⟨hcs, _⟩ | ⟨x, l, c, zs, hcs, _, hl, hm, hz, hx, hcell, hwz⟩
    · simp [Value.cells] at hcs
      obtain ⟨rfl, rfl, rfl⟩ := hcs
      exact ⟨[], .inl ⟨rfl, rfl, rfl, rfl⟩, Nat.zero_le _⟩
    · simp [Value.cells] at hcs
      obtain ⟨rfl, rfl, rfl⟩ := hcs
      simp only [Prod.mk.injEq] at hx
      obtain ⟨rfl, rfl⟩ := hx
      have hz' : zs.length = cap0 := by simpa using hz
      have := sized_slice hsz (j := 0) (t := 22) (e := 5) rfl rfl Try.underlying22
      rw [bytes5] at this
      simp only [lits, List.length_map, List.length_take, List.length_drop, reachBytes] at this
      have hmx := Go.CT.mx_eq
      exact ⟨zs, .inr ⟨_, rfl, hl, hz', hcell, hwz⟩, by omega⟩
  clear hA0 hval0 hsz0
  have hr0 := fun s => w0.rd (s := s) m0
  refine (Go.CT.DC.below (CtD.lawSP (z0.take len0) (hr0 fun _ => none).2.1 (by rw [(hr0 fun _ => none).2.2]; exact m0)) fun s => .one (hr0 s).1).mono fun e W' ⟨he, bel⟩ => ?_
  subst he
  exact ⟨_, rfl, _, _, _, [], _, [], hW', trodAll_mk1 (shut_bool Try.underlying4 _), (trodAll_cons_mk (Below.trod laidOut (by kernel_rfl) (of_decide_eq_true (by kernel_rfl)) k0 bel lt0) trodAll_mk0), rfl, bel.frame _, fun h => by cases h⟩

theorem over : Rows.fnSliceProgramRow.holds Try.pinned (OpenSpec.ofChange Rows.fnSliceProgramSpec) :=
  OpenClaim.holds_of_wide 12 Try.f12 rfl rfl rfl rfl rfl rfl rfl ⟨rfl, rfl, rfl, rfl, rfl⟩ rfl rfl rfl rfl rfl (by kernel_rfl) Try.func12 (by kernel_rfl)
    (of_decide_eq_true (by kernel_rfl)) (by unfold Func.isWrapper; first | (rw [if_pos (by decide +kernel)]; kernel_rfl) | (rw [if_neg (by decide +kernel)]; exact ⟨rfl, rfl⟩))
    (fun os started H enc _ => lifted os started H enc)

theorem proved : Rows.FnSliceProgramSaid := over
#print axioms proved
end Go.Proofs.Ytclgjiffpijgmaa.fnSliceProgram
