/- Contracts of functions of the program, one behind the other, as plain data: what each call returns and which blocks it leaves. -/
import Derived.Test.YtmagbjbanpgmhaaGreatSFacts
import Derived.Test.YtmagbjbanpgmhaaGreatSAj
import Derived.Test.YtmagbjbanpgmhaaGreatSAk
import Derived.Test.YtmagbjbanpgmhaaGreatSAl
import Derived.Test.YtmagbjbanpgmhaaGreatSAm
import Derived.Test.YtmagbjbanpgmhaaGreatSAn
import Derived.Test.YtmagbjbanpgmhaaGreatSAp
import Derived.Test.YtmagbjbanpgmhaaGreatSAq
import Derived.Test.YtmagbjbanpgmhaaGreatSAr
set_option linter.unusedVariables false
set_option linter.unusedSimpArgs false
set_option maxHeartbeats 16000000
set_option maxRecDepth 100000
namespace Go.Proofs.YtmagbjbanpgmhaaGreat.CtD
open Go Go.CT CtF CtR

theorem sliceProgI (p : Pg) (ws : List Bool) (hl : p.vars.length ≤ mx) (hl2 : p.arrays.length ≤ mx) (hw : ws.length ≤ 1000) : DC Tryz.prog 17 [.agg p.cells, .c (boolsD ws)] [] (sliR p ws) := by
  have hmx := mx_eq
  have hv := programValidI p hl hl2
  have hce := cellsI p hl hl2
  have hown := fun q h => ownStmts p 5 (cutL q p.vars.length 5 p.body) (cut_ok 5 p.body h).1
  have hcl1 := cloneI p.vars
  have hcl2 := cloneI p.arrays
  have hsz := fun (q : Nat → Bool) h => (cut_ok (p := p) (q := q) (nv := p.vars.length) 5 p.body h).2 5
  have hsl := fun hn N hN => sliceI p hn N hN 5 p.body
  generalize hR : sliR p ws = R
  have bad : ∀ hp : Hp, (progOK p && decide (ws.length = p.vars.length + p.arrays.length)) = false → RetOb 0 R (.tup [.agg [.v (.slice none 0 0), .v (.slice none 0 0), .v (.slice none 0 0)], DB false]) hp := fun hp hb => by
    refine RetOb.ofQ (fun _ => none) [] (.tup [.agg (Pg.cells ⟨[], [], []⟩), DB false]) [] ?_ (by rw [← hR]; exact ⟨rfl, .inr ⟨hb, rfl⟩⟩) (by simp)
    simp [enumL, DM, DMs, CM, CMs, HpOK, LowOK, Pg.cells, isI, St1.cellsL]
  cases hq : progOK p with
  | false =>
    have bad := fun hp => bad hp (by rw [hq]; rfl)
    rw [hq] at hv
    obtain ⟨vs, ar, bd⟩ := p
    refine dcZ Tryz.func17 ?_
    simp (maxSteps := 9999999) only [go_sem]
    ((try (refine drvZ Tryz.func17 ?_; simp (maxSteps := 9999999) only [go_sem])); (try ((with_reducible refine And.intro ?_ ?_) <;> (repeat' with_reducible apply And.intro) <;> try exact sd)))
    refine XK.plain hv ok41 ?_ (hbT ())
    iterate 2 ((try (refine drvZ Tryz.func17 ?_; simp (maxSteps := 9999999) only [go_sem, boolsD, BC])); (try ((with_reducible refine And.intro ?_ ?_) <;> (repeat' with_reducible apply And.intro) <;> try exact sd)))
    refine XK.gskip 3 false (DI .i64 0) ?_ (hbT ())
    iterate 3 ((try (refine drvZ Tryz.func17 ?_; simp (maxSteps := 9999999) only [go_sem, boolsD, BC])); (try ((with_reducible refine And.intro ?_ ?_) <;> (repeat' with_reducible apply And.intro) <;> try exact sd)))
    exact RetOb.ofQ (fun _ => none) [] (.tup [.agg (Pg.cells ⟨[], [], []⟩), DB false]) [] (by simp [enumL, DM, DMs, CM, CMs, HpOK, LowOK, Pg.cells, isI, St1.cellsL]) (by rw [← hR]; exact ⟨rfl, .inr ⟨by rw [hq]; rfl, rfl⟩⟩) (by simp)
  | true =>
    rw [hq] at hv
    have hln := prog_len hq
    by_cases hwl : ws.length = p.vars.length + p.arrays.length
    · have hcond : (progOK p && decide (ws.length = p.vars.length + p.arrays.length)) = true := by rw [hq]; simp [hwl]
      have hbo := body_of hq
      have hset := fun q => setN_le p hq q
      have hown := fun q => hown q hbo.1 (by have := hsz q hbo.1; have := hbo.2; omega)
      have hsl := fun N hN => hsl (by omega) N hN hbo.1 (by have := hbo.2; omega)
      have hfin : ∀ N : Nat, (∀ i, ws.getD i false = true → N.testBit i = true) → (∀ q' : Nat → Bool, (∀ i, ws.getD i false = true → q' i = true) → subB (setN q' p.vars.length 5 p.body) q' → leB N.testBit q') → N ||| setN N.testBit p.vars.length 5 p.body = N → Least p ws N.testBit := fun N h1 h2 h3 =>
        ⟨h1, fun i hi => by rw [← h3, Nat.testBit_or, hi, Bool.or_true], h2⟩
      have hstep : ∀ N : Nat, (∀ q' : Nat → Bool, (∀ i, ws.getD i false = true → q' i = true) → subB (setN q' p.vars.length 5 p.body) q' → leB N.testBit q') → (∀ q' : Nat → Bool, (∀ i, ws.getD i false = true → q' i = true) → subB (setN q' p.vars.length 5 p.body) q' → leB (N ||| setN N.testBit p.vars.length 5 p.body).testBit q') := fun N h q' a b =>
        subB_or.2 ⟨h q' a b, (cut_mono p.vars.length (h q' a b) 5 p.body).2 q' b⟩
      obtain ⟨vs, ar, bd⟩ := p
      have hln : 1 ≤ vs.length ∧ vs.length ≤ 12 ∧ ar.length ≤ 2 := hln
      have hwl : ws.length = vs.length + ar.length := hwl
      simp only at hset hown hsl hfin hstep hcl1 hcl2 hce
      have hb1 : ((ws.length : Int) != (vs.length : Int) + (ar.length : Int)) = false := by rw [hwl]; simp
      have hb2 : ((ws.length : Int) = (vs.length : Int) + (ar.length : Int)) = True := eq_true (by omega)
      refine dcZ Tryz.func17 ?_
      simp (maxSteps := 9999999) only [go_sem]
      ((try (refine drvZ Tryz.func17 ?_; simp (maxSteps := 9999999) only [go_sem])); (try ((with_reducible refine And.intro ?_ ?_) <;> (repeat' with_reducible apply And.intro) <;> try exact sd)))
      refine XK.plain hv ok41 ?_ (hbT ())
      iterate 2 ((try (refine drvZ Tryz.func17 ?_; simp (maxSteps := 9999999) only [go_sem, boolsD, BC])); (try ((with_reducible refine And.intro ?_ ?_) <;> (repeat' with_reducible apply And.intro) <;> try exact sd)))
      refine XK.gplain 3 false true (fun _ => hce) ok49 ?_ (hbT ())
      iterate 3 ((try (refine drvZ Tryz.func17 ?_; simp (maxSteps := 9999999) only [go_sem, boolsD, BC, hb1, hb2])); (try ((with_reducible refine And.intro ?_ ?_) <;> (repeat' with_reducible apply And.intro) <;> try exact sd)))
      refine Go.loopQ (fun i : Nat => [(2, .c (.ptr 0 0)), (4, .c (.ptr 64 0)), (6, DI .i64 (accN ws i)), (22, .c (boolsD ws)), (23, DI .i64 ws.length), (24, DI .i64 i)])
        (fun _ => [(0, some (Pg.cells ⟨vs, ar, bd⟩)), (64, some [.v (.slice none 0 0), .v (.slice none 0 0), .v (.slice none 0 0)])]) 4096 (fun i => i ≤ ws.length) (fun i => ws.length - i) ?_ 0 some [] _ (Nat.zero_le _) ?_
      · intro i hi again
        rcases Nat.lt_or_ge i ws.length with hlt | hge
        · obtain ⟨b, hbx⟩ : ∃ b, ws[i]? = some b := ⟨ws[i], by simp [hlt]⟩
          have hgd : ws.getD i false = b := by rw [List.getD_eq_getElem?_getD, hbx]; rfl
          have hac : accN ws (i + 1) = accN ws i ||| (if b then 1 else 0) * 2 ^ i := by rw [accN, hgd]
          have hal := accN_lt ws i (by omega)
          have hp14 := pow14 (show i < 14 by omega)
          have hp14i := pow14i hp14
          have hpp : (0 : Int) < 2 ^ i := Int.pow_pos (by decide)
          have hbits : ((IntKind.i64).bits : Int) = 64 := rfl
          have hcast : (2 : Int) ^ i = ((2 ^ i : Nat) : Int) := by rw [Int.natCast_pow]; rfl
          generalize accN ws i = ac at *
          refine drvL Tryz.func17 ?_
          simp (maxSteps := 9999999) only [go_sem, boolsD, BC, hbx, hlt]
          iterate 2 ((try (refine drvZ Tryz.func17 ?_; simp (maxSteps := 9999999) only [go_sem, boolsD, BC, hbx, hlt])); (try ((with_reducible refine And.intro ?_ ?_) <;> (repeat' with_reducible apply And.intro) <;> try exact sd)))
          refine XK.plain (truth b) ok50 ?_ (hbT ())
          cases b with
          | true =>
            simp only [if_true, Nat.one_mul] at hac
            have h1 : ((2 : Int) ^ i).toNat = 2 ^ i := by rw [hcast]; rfl
            iterate 3 ((try (refine drvZ Tryz.func17 ?_; simp (maxSteps := 9999999) only [go_sem, boolsD, BC, hbits, if_true, Int.one_mul, h1])); (try ((with_reducible refine And.intro ?_ ?_) <;> (repeat' with_reducible apply And.intro) <;> try exact sd)))
            refine again (i + 1) some [] _ hlt (by omega) ?_
            simp (maxSteps := 9999999) only [go_sem, TmOK, DM, DMs, CM, CMs, forall_eq, exists_eq_left, Mq, HpOK, LowOK, boolsD, BC, hac]
            try simp
          | false =>
            simp only [Bool.false_eq_true, if_false, Nat.zero_mul, Nat.or_zero] at hac
            iterate 3 ((try (refine drvZ Tryz.func17 ?_; simp (maxSteps := 9999999) only [go_sem, boolsD, BC, hbits, Bool.false_eq_true, if_false, Int.zero_mul, Nat.or_zero])); (try ((with_reducible refine And.intro ?_ ?_) <;> (repeat' with_reducible apply And.intro) <;> try exact sd)))
            refine again (i + 1) some [] _ hlt (by omega) ?_
            simp (maxSteps := 9999999) only [go_sem, TmOK, DM, DMs, CM, CMs, forall_eq, exists_eq_left, Mq, HpOK, LowOK, boolsD, BC, hac]
            try simp
        · have hn2 : ¬ i < ws.length := by omega
          obtain rfl : i = ws.length := by omega
          clear again
          refine drvL Tryz.func17 ?_
          simp (maxSteps := 9999999) only [go_sem, boolsD, BC, hn2]
          ((try (refine drvZ Tryz.func17 ?_; simp (maxSteps := 9999999) only [go_sem, boolsD, BC, hn2])); (try ((with_reducible refine And.intro ?_ ?_) <;> (repeat' with_reducible apply And.intro) <;> try exact sd)))
          refine Go.loopQ (fun N : Nat => [(2, .c (.ptr 0 0)), (4, .c (.ptr 64 0)), (6, DI .i64 N)])
            (fun _ => [(0, some (Pg.cells ⟨vs, ar, bd⟩)), (64, some [.v (.slice none 0 0), .v (.slice none 0 0), .v (.slice none 0 0)])]) 8192
            (fun N => N < 16384 ∧ (∀ i, ws.getD i false = true → N.testBit i = true) ∧ (∀ q' : Nat → Bool, (∀ i, ws.getD i false = true → q' i = true) → subB (setN q' vs.length 5 bd) q' → leB N.testBit q')) (fun N => 16384 - N) ?_ (accN ws ws.length) some [] _ ⟨accN_lt ws _ (by omega), fun i hi => ?_, fun q' a b i hi => ?_⟩ ?_
          · rintro N ⟨hN, hN1, hN2⟩ again
            have hS := hset N.testBit
            have hS2 := hsl N hN
            have hfi := hfin N hN1 hN2
            have hst := hstep N hN2
            have hge := or_ge N (setN N.testBit vs.length 5 bd)
            have hlt2 := or_lt hN hS
            generalize hSS : setN N.testBit vs.length 5 bd = SS at *
            refine drvL Tryz.func17 ?_
            simp (maxSteps := 9999999) only [go_sem]
            refine XK.plain hS2 ok51 ?_ (hbT ())
            by_cases heq : N ||| SS = N
            · have c1 : (((N ||| SS : Nat) : Int) == (N : Int)) = true := by rw [heq]; simp
              have c2 : (((N ||| SS : Nat) : Int) = (N : Int)) = True := eq_true (by rw [heq])
              iterate 3 ((try (refine drvZ Tryz.func17 ?_; simp (maxSteps := 9999999) only [go_sem, c1, c2])); (try ((with_reducible refine And.intro ?_ ?_) <;> (repeat' with_reducible apply And.intro) <;> try exact sd)))
              refine XK.callG [] (hcl1 (by omega)) ok52 (fun i' x h => by simp at h) (hbT ()) (fun d h' ⟨_, e⟩ => by subst e; simp) ?_ (fun _ => ⟨by kernel_rfl, _, _, ⟨rfl, rfl⟩, by simp⟩)
              rintro _ _ ⟨rfl, rfl⟩ _
              iterate 2 ((try (refine drvZ Tryz.func17 ?_; simp (maxSteps := 9999999) only [go_sem, renCs_I])); (try ((with_reducible refine And.intro ?_ ?_) <;> (repeat' with_reducible apply And.intro) <;> try exact sd)))
              refine XK.callG [] (hcl2 (by omega)) ok52 (fun i' x h => by simp at h) (hbT ()) (fun d h' ⟨_, e⟩ => by subst e; simp) ?_ (fun _ => ⟨by kernel_rfl, _, _, ⟨rfl, rfl⟩, by simp⟩)
              rintro _ _ ⟨rfl, rfl⟩ _
              iterate 2 ((try (refine drvZ Tryz.func17 ?_; simp (maxSteps := 9999999) only [go_sem, renCs_I])); (try ((with_reducible refine And.intro ?_ ?_) <;> (repeat' with_reducible apply And.intro) <;> try exact sd)))
              refine XK.plain (hown N.testBit) ok53 ?_ (hbT ()) (fun _ => by kernel_rfl)
              iterate 3 ((try (refine drvZ Tryz.func17 ?_; simp (maxSteps := 9999999) only [go_sem, renCs_I])); (try ((with_reducible refine And.intro ?_ ?_) <;> (repeat' with_reducible apply And.intro) <;> try exact sd)))
              refine RetOb.ofQ (fun _ => none) [9280, 9472] (.tup [.agg (Pg.cells (slP ⟨vs, ar, bd⟩ N.testBit)), DB true]) [] ?_ (by rw [← hR]; exact ⟨rfl, .inl ⟨hcond, N.testBit, hfi heq, rfl⟩⟩) (by simp)
              simp [enumL, DM, DMs, CM, CMs, HpOK, LowOK, Pg.cells, slP, isI, hOf, upd, flat_I, kf]
            · have c1 : (((N ||| SS : Nat) : Int) == (N : Int)) = false := by simp only [beq_eq_false_iff_ne]; omega
              have c2 : (((N ||| SS : Nat) : Int) = (N : Int)) = False := eq_false (by omega)
              iterate 3 ((try (refine drvZ Tryz.func17 ?_; simp (maxSteps := 9999999) only [go_sem, c1, c2])); (try ((with_reducible refine And.intro ?_ ?_) <;> (repeat' with_reducible apply And.intro) <;> try exact sd)))
              refine again (N ||| SS) some [] _ ⟨hlt2, fun i hi => by rw [Nat.testBit_or, hN1 i hi, Bool.true_or], hst⟩ (by omega) ?_
              simp (maxSteps := 9999999) only [go_sem, TmOK, DM, DMs, CM, CMs, forall_eq, exists_eq_left, Mq, HpOK, LowOK]
              try simp
          · have hlt : i < ws.length := by
              rcases Nat.lt_or_ge i ws.length with h | h
              · exact h
              · rw [List.getD_eq_getElem?_getD, List.getElem?_eq_none h] at hi; cases hi
            rw [accN_bit, hi]; simp [hlt]
          · rw [accN_bit, Bool.and_eq_true] at hi
            exact a i hi.2
          · simp (maxSteps := 9999999) only [go_sem, TmOK, DM, DMs, CM, CMs, forall_eq, exists_eq_left, Mq, HpOK, LowOK]
            try simp
      · simp (maxSteps := 9999999) only [go_sem, TmOK, DM, DMs, CM, CMs, forall_eq, exists_eq_left, Mq, HpOK, LowOK, boolsD, BC, accN]
        try simp
    · have hb1 : ((ws.length : Int) != ((p.vars.length + p.arrays.length : Nat) : Int)) = true := by simp only [bne_iff_ne]; omega
      have hb2 : ((ws.length : Int) = ((p.vars.length + p.arrays.length : Nat) : Int)) = False := eq_false (by omega)
      obtain ⟨vs, ar, bd⟩ := p
      simp only at hb1 hb2 hce
      refine dcZ Tryz.func17 ?_
      simp (maxSteps := 9999999) only [go_sem]
      ((try (refine drvZ Tryz.func17 ?_; simp (maxSteps := 9999999) only [go_sem])); (try ((with_reducible refine And.intro ?_ ?_) <;> (repeat' with_reducible apply And.intro) <;> try exact sd)))
      refine XK.plain hv ok41 ?_ (hbT ())
      iterate 2 ((try (refine drvZ Tryz.func17 ?_; simp (maxSteps := 9999999) only [go_sem, boolsD, BC])); (try ((with_reducible refine And.intro ?_ ?_) <;> (repeat' with_reducible apply And.intro) <;> try exact sd)))
      refine XK.gplain 3 false true (fun _ => hce) ok49 ?_ (hbT ())
      generalize ((vs.length + ar.length : Nat) : Int) = cc at *
      iterate 3 ((try (refine drvZ Tryz.func17 ?_; simp (maxSteps := 9999999) only [go_sem, boolsD, BC, hb1, hb2])); (try ((with_reducible refine And.intro ?_ ?_) <;> (repeat' with_reducible apply And.intro) <;> try exact sd)))
      exact bad _ (by rw [hq]; simpa using hwl)
end Go.Proofs.YtmagbjbanpgmhaaGreat.CtD

namespace Go.Proofs.YtmagbjbanpgmhaaGreat.CtD
open Go Go.CT CtF CtR

def usesL (nv : Nat) : Nat → Ex → List Bool → List Bool
  | 0, _, L => L
  | d + 1, .mk k v ks, L => ks.foldl (fun L x => usesL nv d x L) (if k = 2 then L.set v.toNat true else if k = 3 then L.set (nv + v.toNat) true else L)
theorem usesL_len (nv : Nat) : ∀ (d : Nat) (e : Ex) (L : List Bool), (usesL nv d e L).length = L.length
  | 0, _, L => rfl
  | d + 1, .mk k v ks, L => by
    have gen : ∀ (ks : List Ex) (L : List Bool), (ks.foldl (fun L x => usesL nv d x L) L).length = L.length := fun ks => by
      induction ks with
      | nil => intro L; rfl
      | cons a r ih => intro L; rw [List.foldl_cons, ih, usesL_len nv d a L]
    simp only [usesL]
    rw [gen]
    split
    · simp
    · split <;> simp

theorem usesS (p : Pg) (hn : p.vars.length + p.arrays.length ≤ 14) : ∀ (d : Nat) (e : Ex) (L : List Bool), CtR.shape p d e = true → L.length = p.vars.length + p.arrays.length →
    DC Tryz.prog 100 [.agg p.cells, .agg e.cells, .c (.msl 0 1 0 L.length)] [some (boolsC L)] (fun r h => r = .tup [] ∧ h = [some (boolsC (usesL p.vars.length d e L))]) := by
  have hmx := mx_eq
  intro d
  induction d with
  | zero => intro e L h; simp [CtR.shape] at h
  | succ d ih =>
    intro e L hsh hL
    obtain ⟨k, v, ks⟩ := e
    obtain ⟨g1, g2, g3⟩ := shape_succ hsh
    obtain ⟨hl3, hla, hv0, hv1⟩ := fits_len g1
    have hlim : k = 2 → v < p.vars.length := fun hk => by subst hk; simpa [limit] using hv1
    have hlim3 : k = 3 → v < p.arrays.length := fun hk => by subst hk; simpa [limit] using hv1
    obtain ⟨vs, ar, bd⟩ := p
    have hn : vs.length + ar.length ≤ 14 := hn
    have hL : L.length = vs.length + ar.length := hL
    simp only at hlim hlim3 ih
    generalize hR : (fun (r : D) (h : List (Option (List C))) => r = .tup [] ∧ h = [some (boolsC (usesL vs.length (d + 1) (.mk k v ks) L))]) = R
    obtain ⟨M, hM⟩ : ∃ M, M = (if k = 2 then L.set v.toNat true else if k = 3 then L.set (vs.length + v.toNat) true else L) := ⟨_, rfl⟩
    have hMl : M.length = L.length := by rw [hM]; split <;> (try split) <;> simp
    have hres : usesL vs.length (d + 1) (.mk k v ks) L = ks.foldl (fun L x => usesL vs.length d x L) M := by rw [hM]; rfl
    have hfl : ∀ i, ((ks.take i).foldl (fun L x => usesL vs.length d x L) M).length = L.length := fun i => by
      rw [← hMl]
      generalize ks.take i = l
      have gen : ∀ (l : List Ex) (L : List Bool), (l.foldl (fun L x => usesL vs.length d x L) L).length = L.length := fun l => by
        induction l with
        | nil => intro L; rfl
        | cons a r ih => intro L; rw [List.foldl_cons, ih, usesL_len]
      exact gen l M
    have hfs : ∀ i x, ks[i]? = some x → (ks.take (i + 1)).foldl (fun L x => usesL vs.length d x L) M = usesL vs.length d x ((ks.take i).foldl (fun L x => usesL vs.length d x L) M) := fun i x h => by
      rw [List.take_add_one, h]; simp
    have hbl := boolsC_len L
    have hMb : boolsC M = boolsC (if k = 2 then L.set v.toNat true else if k = 3 then L.set (vs.length + v.toNat) true else L) := by rw [hM]
    rw [hres] at hR
    have key : k = 2 ∨ k = 3 ∨ (k ≠ 2 ∧ k ≠ 3) := by omega
    rcases key with hk | hk | ⟨hk2, hk3⟩
    · have hv2 := hlim hk
      have e2 : (k == 2) = true := by simp [hk]
      have f2 : (k = 2) = True := by simp [hk]
      have e3 : (k == 3) = false := by simp [hk]
      have f3 : (k = 3) = False := by simp [hk]
      refine dcZ Tryz.func100 ?_
      simp (maxSteps := 9999999) only [go_sem, e2, f2, e3, f3]
      iterate 4 ((try (refine drvZ Tryz.func100 ?_; simp (maxSteps := 9999999) only [go_sem, e2, f2, e3, f3, boolsC_set, hbl])); (try ((with_reducible refine And.intro ?_ ?_) <;> (repeat' with_reducible apply And.intro) <;> try exact sd)))
      refine Go.loopQ (fun i : Nat => [(2, .c (.msl 0 1 0 L.length)), (3, .c (.ptr 1 0)), (4, .c (.ptr 65 0)), (6, DI .i64 i)])
        (fun i => [(0, some (boolsC ((ks.take i).foldl (fun L x => usesL vs.length d x L) M))), (1, some (Pg.cells ⟨vs, ar, bd⟩)), (65, some (Ex.cells (.mk k v ks)))])
        4096 (fun i => i ≤ ks.length) (fun i => ks.length - i) ?_ 0 some [] _ (Nat.zero_le _) ?_
      · intro i hi again
        have hfi := hfl i
        rcases Nat.lt_or_ge i ks.length with hlt | hge
        · obtain ⟨⟨k', v', ks'⟩, hx⟩ : ∃ x, ks[i]? = some x := ⟨ks[i], by simp [hlt]⟩
          have hsc := hfs i _ hx
          generalize (ks.take i).foldl (fun L x => usesL vs.length d x L) M = acc at *
          have hih := ih (.mk k' v' ks') acc (g2 _ (List.mem_of_getElem? hx)) (by omega)
          rw [hfi] at hih
          refine drvL Tryz.func100 ?_
          simp (maxSteps := 9999999) only [go_sem, hx, hlt]
          iterate 2 ((try (refine drvZ Tryz.func100 ?_; simp (maxSteps := 9999999) only [go_sem, hx, hlt])); (try ((with_reducible refine And.intro ?_ ?_) <;> (repeat' with_reducible apply And.intro) <;> try exact sd)))
          refine XK.callG [0] hih ok100 (hhp_one (by simp [hOf, upd, boolsC_ren])) (hbT ()) (fun d h' ⟨_, e⟩ => by subst e; simp) ?_ (fun _ => ⟨by kernel_rfl, _, _, ⟨rfl, rfl⟩, by simp⟩)
          rintro _ _ ⟨rfl, rfl⟩ _
          iterate 3 ((try (refine drvZ Tryz.func100 ?_; simp (maxSteps := 9999999) only [go_sem, hx, hlt, boolsC_ren])); (try ((with_reducible refine And.intro ?_ ?_) <;> (repeat' with_reducible apply And.intro) <;> try exact sd)))
          refine again (i + 1) some [] _ hlt (by omega) ?_
          simp (maxSteps := 9999999) only [go_sem, TmOK, DM, DMs, CM, CMs, forall_eq, exists_eq_left, Mq, HpOK, LowOK, hsc]
          simp
          exact CMs.kf (boolsC_kf _)
        · have hn2 : ¬ i < ks.length := by omega
          obtain rfl : i = ks.length := by omega
          refine drvL Tryz.func100 ?_
          simp (maxSteps := 9999999) only [go_sem, hn2, List.take_length]
          iterate 2 ((try (refine drvZ Tryz.func100 ?_; simp (maxSteps := 9999999) only [go_sem, hn2, List.take_length])); (try ((with_reducible refine And.intro ?_ ?_) <;> (repeat' with_reducible apply And.intro) <;> try exact sd)))
          refine RetOb.ofQ some [] (.tup []) [some (boolsC (ks.foldl (fun L x => usesL vs.length d x L) M))] ?_ (by rw [← hR]; exact ⟨rfl, rfl⟩) (by simp)
          simp [enumL, DM, DMs, HpOK, LowOK, hOf, upd]
          exact CMs.kf (boolsC_kf _)
      · simp (maxSteps := 9999999) only [go_sem, TmOK, DM, DMs, CM, CMs, forall_eq, exists_eq_left, Mq, HpOK, LowOK, List.take_zero, List.foldl_nil, hM, f2, if_true]
        simp
        exact CMs.kf (boolsC_kf _)
    · have hv2 := hlim3 hk
      have e2 : (k == 2) = false := by simp [hk]
      have f2 : (k = 2) = False := by simp [hk]
      have e3 : (k == 3) = true := by simp [hk]
      have f3 : (k = 3) = True := by simp [hk]
      have hpos : ((vs.length : Int) + v).toNat = vs.length + v.toNat := by omega
      refine dcZ Tryz.func100 ?_
      simp (maxSteps := 9999999) only [go_sem, e2, f2, e3, f3]
      iterate 4 ((try (refine drvZ Tryz.func100 ?_; simp (maxSteps := 9999999) only [go_sem, e2, f2, e3, f3, boolsC_set, hbl, hpos])); (try ((with_reducible refine And.intro ?_ ?_) <;> (repeat' with_reducible apply And.intro) <;> try exact sd)))
      refine Go.loopQ (fun i : Nat => [(2, .c (.msl 0 1 0 L.length)), (3, .c (.ptr 1 0)), (4, .c (.ptr 65 0)), (6, DI .i64 i)])
        (fun i => [(0, some (boolsC ((ks.take i).foldl (fun L x => usesL vs.length d x L) M))), (1, some (Pg.cells ⟨vs, ar, bd⟩)), (65, some (Ex.cells (.mk k v ks)))])
        4096 (fun i => i ≤ ks.length) (fun i => ks.length - i) ?_ 0 some [] _ (Nat.zero_le _) ?_
      · intro i hi again
        have hfi := hfl i
        rcases Nat.lt_or_ge i ks.length with hlt | hge
        · obtain ⟨⟨k', v', ks'⟩, hx⟩ : ∃ x, ks[i]? = some x := ⟨ks[i], by simp [hlt]⟩
          have hsc := hfs i _ hx
          generalize (ks.take i).foldl (fun L x => usesL vs.length d x L) M = acc at *
          have hih := ih (.mk k' v' ks') acc (g2 _ (List.mem_of_getElem? hx)) (by omega)
          rw [hfi] at hih
          refine drvL Tryz.func100 ?_
          simp (maxSteps := 9999999) only [go_sem, hx, hlt]
          iterate 2 ((try (refine drvZ Tryz.func100 ?_; simp (maxSteps := 9999999) only [go_sem, hx, hlt])); (try ((with_reducible refine And.intro ?_ ?_) <;> (repeat' with_reducible apply And.intro) <;> try exact sd)))
          refine XK.callG [0] hih ok100 (hhp_one (by simp [hOf, upd, boolsC_ren])) (hbT ()) (fun d h' ⟨_, e⟩ => by subst e; simp) ?_ (fun _ => ⟨by kernel_rfl, _, _, ⟨rfl, rfl⟩, by simp⟩)
          rintro _ _ ⟨rfl, rfl⟩ _
          iterate 3 ((try (refine drvZ Tryz.func100 ?_; simp (maxSteps := 9999999) only [go_sem, hx, hlt, boolsC_ren])); (try ((with_reducible refine And.intro ?_ ?_) <;> (repeat' with_reducible apply And.intro) <;> try exact sd)))
          refine again (i + 1) some [] _ hlt (by omega) ?_
          simp (maxSteps := 9999999) only [go_sem, TmOK, DM, DMs, CM, CMs, forall_eq, exists_eq_left, Mq, HpOK, LowOK, hsc]
          simp
          exact CMs.kf (boolsC_kf _)
        · have hn2 : ¬ i < ks.length := by omega
          obtain rfl : i = ks.length := by omega
          refine drvL Tryz.func100 ?_
          simp (maxSteps := 9999999) only [go_sem, hn2, List.take_length]
          iterate 2 ((try (refine drvZ Tryz.func100 ?_; simp (maxSteps := 9999999) only [go_sem, hn2, List.take_length])); (try ((with_reducible refine And.intro ?_ ?_) <;> (repeat' with_reducible apply And.intro) <;> try exact sd)))
          refine RetOb.ofQ some [] (.tup []) [some (boolsC (ks.foldl (fun L x => usesL vs.length d x L) M))] ?_ (by rw [← hR]; exact ⟨rfl, rfl⟩) (by simp)
          simp [enumL, DM, DMs, HpOK, LowOK, hOf, upd]
          exact CMs.kf (boolsC_kf _)
      · simp (maxSteps := 9999999) only [go_sem, TmOK, DM, DMs, CM, CMs, forall_eq, exists_eq_left, Mq, HpOK, LowOK, List.take_zero, List.foldl_nil, hM, f2, f3, if_true, if_false]
        simp
        exact CMs.kf (boolsC_kf _)
    · have e2 : (k == 2) = false := by simp [hk2]
      have e3 : (k == 3) = false := by simp [hk3]
      refine dcZ Tryz.func100 ?_
      simp (maxSteps := 9999999) only [go_sem, hk2, hk3, e2, e3]
      iterate 4 ((try (refine drvZ Tryz.func100 ?_; simp (maxSteps := 9999999) only [go_sem, hk2, hk3, e2, e3])); (try ((with_reducible refine And.intro ?_ ?_) <;> (repeat' with_reducible apply And.intro) <;> try exact sd)))
      refine Go.loopQ (fun i : Nat => [(2, .c (.msl 0 1 0 L.length)), (3, .c (.ptr 1 0)), (4, .c (.ptr 65 0)), (6, DI .i64 i)])
        (fun i => [(0, some (boolsC ((ks.take i).foldl (fun L x => usesL vs.length d x L) M))), (1, some (Pg.cells ⟨vs, ar, bd⟩)), (65, some (Ex.cells (.mk k v ks)))])
        4096 (fun i => i ≤ ks.length) (fun i => ks.length - i) ?_ 0 some [] _ (Nat.zero_le _) ?_
      · intro i hi again
        have hfi := hfl i
        rcases Nat.lt_or_ge i ks.length with hlt | hge
        · obtain ⟨⟨k', v', ks'⟩, hx⟩ : ∃ x, ks[i]? = some x := ⟨ks[i], by simp [hlt]⟩
          have hsc := hfs i _ hx
          generalize (ks.take i).foldl (fun L x => usesL vs.length d x L) M = acc at *
          have hih := ih (.mk k' v' ks') acc (g2 _ (List.mem_of_getElem? hx)) (by omega)
          rw [hfi] at hih
          refine drvL Tryz.func100 ?_
          simp (maxSteps := 9999999) only [go_sem, hx, hlt]
          iterate 2 ((try (refine drvZ Tryz.func100 ?_; simp (maxSteps := 9999999) only [go_sem, hx, hlt])); (try ((with_reducible refine And.intro ?_ ?_) <;> (repeat' with_reducible apply And.intro) <;> try exact sd)))
          refine XK.callG [0] hih ok100 (hhp_one (by simp [hOf, upd, boolsC_ren])) (hbT ()) (fun d h' ⟨_, e⟩ => by subst e; simp) ?_ (fun _ => ⟨by kernel_rfl, _, _, ⟨rfl, rfl⟩, by simp⟩)
          rintro _ _ ⟨rfl, rfl⟩ _
          iterate 3 ((try (refine drvZ Tryz.func100 ?_; simp (maxSteps := 9999999) only [go_sem, hx, hlt, boolsC_ren])); (try ((with_reducible refine And.intro ?_ ?_) <;> (repeat' with_reducible apply And.intro) <;> try exact sd)))
          refine again (i + 1) some [] _ hlt (by omega) ?_
          simp (maxSteps := 9999999) only [go_sem, TmOK, DM, DMs, CM, CMs, forall_eq, exists_eq_left, Mq, HpOK, LowOK, hsc]
          simp
          exact CMs.kf (boolsC_kf _)
        · have hn2 : ¬ i < ks.length := by omega
          obtain rfl : i = ks.length := by omega
          refine drvL Tryz.func100 ?_
          simp (maxSteps := 9999999) only [go_sem, hn2, List.take_length]
          iterate 2 ((try (refine drvZ Tryz.func100 ?_; simp (maxSteps := 9999999) only [go_sem, hn2, List.take_length])); (try ((with_reducible refine And.intro ?_ ?_) <;> (repeat' with_reducible apply And.intro) <;> try exact sd)))
          refine RetOb.ofQ some [] (.tup []) [some (boolsC (ks.foldl (fun L x => usesL vs.length d x L) M))] ?_ (by rw [← hR]; exact ⟨rfl, rfl⟩) (by simp)
          simp [enumL, DM, DMs, HpOK, LowOK, hOf, upd]
          exact CMs.kf (boolsC_kf _)
      · simp (maxSteps := 9999999) only [go_sem, TmOK, DM, DMs, CM, CMs, forall_eq, exists_eq_left, Mq, HpOK, LowOK, List.take_zero, List.foldl_nil, hM, hk2, hk3, if_false]
        simp
        exact CMs.kf (boolsC_kf _)
end Go.Proofs.YtmagbjbanpgmhaaGreat.CtD
