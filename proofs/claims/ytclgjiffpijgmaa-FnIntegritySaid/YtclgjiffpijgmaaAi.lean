/- Contracts of functions of the program, one behind the other, as plain data: what each call returns and which blocks it leaves. -/
import Derived.Test.YtclgjiffpijgmaaFacts
import Derived.Test.YtclgjiffpijgmaaAd
import Derived.Test.YtclgjiffpijgmaaAe
import Derived.Test.YtclgjiffpijgmaaAf
import Derived.Test.YtclgjiffpijgmaaAh
import Derived.Test.YtclgjiffpijgmaaAg
set_option linter.unusedVariables false
set_option linter.unusedSimpArgs false
set_option maxHeartbeats 16000000
set_option maxRecDepth 100000
namespace Go.Proofs.Ytclgjiffpijgmaa.CtD
open Go Go.CT CtF CtR

def slP (p : Pg) (q : Nat → Bool) : Pg := ⟨p.vars, p.arrays, cutL q p.vars.length 5 p.body⟩
def sliR (p : Pg) (ws : List Bool) (r : D) (h : List (Option (List C))) : Prop :=
  h = [] ∧ (((progOK p && decide (ws.length = p.vars.length + p.arrays.length)) = true ∧ ∃ q, Least p ws q ∧ r = .tup [.agg (Pg.cells (slP p q)), DB true]) ∨
    ((progOK p && decide (ws.length = p.vars.length + p.arrays.length)) = false ∧ r = .tup [.agg (Pg.cells ⟨[], [], []⟩), DB false]))
theorem or_ge (a b : Nat) : a ≤ a ||| b := Nat.left_le_or
theorem setN_le (p : Pg) (h : progOK p = true) (q : Nat → Bool) : setN q p.vars.length 5 p.body < 16384 := setN_lt (by have := prog_len h; omega) 5 p.body (body_of h).1
theorem cut_ok {p : Pg} {q : Nat → Bool} {nv : Nat} : ∀ (d : Nat) (l : List St1), (∀ s ∈ l, stmtOK p d s = true) → (∀ s ∈ cutL q nv d l, stmtOK p d s = true) ∧ ∀ k, lsize k (cutL q nv d l) ≤ lsize k l
  | 0, l, h => by
    refine ⟨fun s hs => by simp [cutL] at hs, fun k => by simp [cutL, lsize]⟩
  | d + 1, l, h => by
    have hone : ∀ s ∈ l, ∀ s', cutS q nv (cutL q nv d) s = some s' → stmtOK p (d + 1) s' = true ∧ ∀ k, tsize k s' ≤ tsize k s := fun s hs s' he => by
      have hok := h s hs
      obtain ⟨k, t, ix, v, c, b, e⟩ := s
      have hbe := stmtOK_succ hok
      simp only [cutS] at he
      by_cases h5 : k = 5
      · rw [if_pos h5] at he; simp only [Option.some.injEq] at he; rw [← he]; exact ⟨hok, fun k => Nat.le_refl _⟩
      · rw [if_neg h5] at he
        by_cases h1 : k = 1
        · rw [if_pos h1] at he
          split at he
          · simp only [Option.some.injEq] at he; rw [← he]; exact ⟨hok, fun k => Nat.le_refl _⟩
          · cases he
        · rw [if_neg h1] at he
          by_cases h2 : k = 2
          · rw [if_pos h2] at he
            split at he
            · simp only [Option.some.injEq] at he; rw [← he]; exact ⟨hok, fun k => Nat.le_refl _⟩
            · cases he
          · rw [if_neg h2] at he
            split at he
            · simp only [Option.some.injEq] at he
              rw [← he]
              have ib := cut_ok (q := q) (nv := nv) d b hbe.2.1
              have ie := cut_ok (q := q) (nv := nv) d e hbe.2.2
              refine ⟨?_, fun k => ?_⟩
              · have hh := hbe.1
                have hk := head_kind hh
                simp only [stmtOK, Bool.and_eq_true, List.all_eq_true]
                refine ⟨⟨?_, ib.1⟩, ie.1⟩
                have hel : k = 4 → e.length = 0 := fun hk4 => by
                  subst hk4
                  unfold headOK parts at hh
                  simp at hh
                  grind
                have hce : k = 4 → (cutL q nv d e).length = 0 := fun hk4 => by
                  have : e = [] := List.eq_nil_of_length_eq_zero (hel hk4)
                  subst this
                  cases d <;> simp [cutL]
                unfold headOK parts blk at hh ⊢
                rcases hk with ⟨hk, _⟩ | ⟨hk, _⟩ | ⟨hk, _⟩ | ⟨hk, _⟩
                · omega
                · omega
                · subst hk; simpa using hh
                · have h1 := hel hk
                  have h2 := hce hk
                  rw [h1] at hh
                  rw [h2]
                  subst hk; simpa using hh
              · cases k with
                | zero => exact Nat.le_refl _
                | succ k =>
                  have e1 := ib.2 k
                  have e2 := ie.2 k
                  simp only [lsize] at e1 e2
                  simp only [tsize]
                  omega
            · cases he
    simp only [cutL]
    refine ⟨fun s hs => ?_, fun k => ?_⟩
    · obtain ⟨x, hx, he⟩ := List.mem_filterMap.1 hs
      exact (hone x hx s he).1
    · clear h
      induction l with
      | nil => simp [lsize]
      | cons a r ih =>
        have ih := ih fun s hs => hone s (by simp [hs])
        have ha := hone a (by simp)
        cases hc : cutS q nv (cutL q nv d) a with
        | none => simp only [List.filterMap_cons, hc, lsize, List.map_cons, List.sum_cons] at ih ⊢; omega
        | some y =>
          have := (ha y hc).2 k
          simp only [List.filterMap_cons, hc, lsize, List.map_cons, List.sum_cons] at ih ⊢; omega
theorem slP_ok {p : Pg} (q : Nat → Bool) (h : progOK p = true) : progOK (slP p q) = true := by
  have hb := body_of h
  have hc := cut_ok (q := q) (nv := p.vars.length) 5 p.body hb.1
  have h2 := hc.2 5
  simp only [progOK, Bool.and_eq_true, decide_eq_true_eq, List.all_eq_true] at h ⊢
  obtain ⟨vs, ar, bd⟩ := p
  exact ⟨⟨h.1.1, fun s hs => by show stmtOK ⟨vs, ar, cutL q vs.length 5 bd⟩ 5 s = true; rw [stmtOK_bd vs ar _ bd]; exact hc.1 s hs⟩, by have := h.2; simp only [slP] at *; omega⟩
end Go.Proofs.Ytclgjiffpijgmaa.CtD

namespace Go.Proofs.Ytclgjiffpijgmaa.CtD
open Go Go.CT CtF CtR

theorem sliceProgI (p : Pg) (ws : List Bool) (hl : p.vars.length ≤ mx) (hl2 : p.arrays.length ≤ mx) (hw : ws.length ≤ 1000) : DC Try.prog 33 [.agg p.cells, .c (boolsD ws)] [] (sliR p ws) := by
  have hmx := mx_eq
  have hv := programValidI p hl hl2
  have hce := cellsI p hl hl2
  have hown := fun q h => ownStmts p 5 (cutL q p.vars.length 5 p.body) (cut_ok 5 p.body h).1
  have hcl1 := cloneI p.vars
  have hcl2 := cloneI p.arrays
  have hsz := fun (q : Nat → Bool) h => (cut_ok (p := p) (q := q) (nv := p.vars.length) 5 p.body h).2 5
  have hsl := fun hn N hN => sliceI p hn N hN 5 p.body
  generalize hR : sliR p ws = R
  have bad : ∀ hp : Hp, (progOK p && decide (ws.length = p.vars.length + p.arrays.length)) = false → RetOb 0 R (.tup [.agg [.v (.slice none 0 0), .v (.slice none 0 0), .v (.slice none 0 0)], DB false]) hp := fun hp hb => by
    refine RetOb.ofQ (fun _ => none) [] (.tup [.agg (Pg.cells ⟨[], [], []⟩), DB false]) [] ?_ (by rw [← hR]; exact ⟨rfl, .inr ⟨hb, rfl⟩⟩) (by simp)
    simp [enumL, DM, DMs, CM, CMs, HpOK, LowOK, Pg.cells, isI, St1.cellsL]
  cases hq : progOK p with
  | false =>
    have bad := fun hp => bad hp (by rw [hq]; rfl)
    rw [hq] at hv
    obtain ⟨vs, ar, bd⟩ := p
    refine dcZ Try.func33 ?_
    simp (maxSteps := 9999999) only [go_sem]
    ((try (refine drvZ Try.func33 ?_; simp (maxSteps := 9999999) only [go_sem])); (try ((with_reducible refine And.intro ?_ ?_) <;> (repeat' with_reducible apply And.intro) <;> try exact sd)))
    refine XK.plain hv ok44 ?_ (hbT ())
    iterate 2 ((try (refine drvZ Try.func33 ?_; simp (maxSteps := 9999999) only [go_sem, boolsD, BC])); (try ((with_reducible refine And.intro ?_ ?_) <;> (repeat' with_reducible apply And.intro) <;> try exact sd)))
    refine XK.gskip 3 false (DI .i64 0) ?_ (hbT ())
    iterate 3 ((try (refine drvZ Try.func33 ?_; simp (maxSteps := 9999999) only [go_sem, boolsD, BC])); (try ((with_reducible refine And.intro ?_ ?_) <;> (repeat' with_reducible apply And.intro) <;> try exact sd)))
    exact RetOb.ofQ (fun _ => none) [] (.tup [.agg (Pg.cells ⟨[], [], []⟩), DB false]) [] (by simp [enumL, DM, DMs, CM, CMs, HpOK, LowOK, Pg.cells, isI, St1.cellsL]) (by rw [← hR]; exact ⟨rfl, .inr ⟨by rw [hq]; rfl, rfl⟩⟩) (by simp)
  | true =>
    rw [hq] at hv
    have hln := prog_len hq
    by_cases hwl : ws.length = p.vars.length + p.arrays.length
    · have hcond : (progOK p && decide (ws.length = p.vars.length + p.arrays.length)) = true := by rw [hq]; simp [hwl]
      have hbo := body_of hq
      have hset := fun q => setN_le p hq q
      have hown := fun q => hown q hbo.1 (by have := hsz q hbo.1; have := hbo.2; omega)
      have hsl := fun N hN => hsl (by omega) N hN hbo.1 (by have := hbo.2; omega)
      have hfin : ∀ N : Nat, (∀ i, ws.getD i false = true → N.testBit i = true) → (∀ q' : Nat → Bool, (∀ i, ws.getD i false = true → q' i = true) → subB (setN q' p.vars.length 5 p.body) q' → leB N.testBit q') → N ||| setN N.testBit p.vars.length 5 p.body = N → Least p ws N.testBit := fun N h1 h2 h3 =>
        ⟨h1, fun i hi => by rw [← h3, Nat.testBit_or, hi, Bool.or_true], h2⟩
      have hstep : ∀ N : Nat, (∀ q' : Nat → Bool, (∀ i, ws.getD i false = true → q' i = true) → subB (setN q' p.vars.length 5 p.body) q' → leB N.testBit q') → (∀ q' : Nat → Bool, (∀ i, ws.getD i false = true → q' i = true) → subB (setN q' p.vars.length 5 p.body) q' → leB (N ||| setN N.testBit p.vars.length 5 p.body).testBit q') := fun N h q' a b =>
        subB_or.2 ⟨h q' a b, (cut_mono p.vars.length (h q' a b) 5 p.body).2 q' b⟩
      obtain ⟨vs, ar, bd⟩ := p
      have hln : 1 ≤ vs.length ∧ vs.length ≤ 12 ∧ ar.length ≤ 2 := hln
      have hwl : ws.length = vs.length + ar.length := hwl
      simp only at hset hown hsl hfin hstep hcl1 hcl2 hce
      have hb1 : ((ws.length : Int) != (vs.length : Int) + (ar.length : Int)) = false := by rw [hwl]; simp
      have hb2 : ((ws.length : Int) = (vs.length : Int) + (ar.length : Int)) = True := eq_true (by omega)
      refine dcZ Try.func33 ?_
      simp (maxSteps := 9999999) only [go_sem]
      ((try (refine drvZ Try.func33 ?_; simp (maxSteps := 9999999) only [go_sem])); (try ((with_reducible refine And.intro ?_ ?_) <;> (repeat' with_reducible apply And.intro) <;> try exact sd)))
      refine XK.plain hv ok44 ?_ (hbT ())
      iterate 2 ((try (refine drvZ Try.func33 ?_; simp (maxSteps := 9999999) only [go_sem, boolsD, BC])); (try ((with_reducible refine And.intro ?_ ?_) <;> (repeat' with_reducible apply And.intro) <;> try exact sd)))
      refine XK.gplain 3 false true (fun _ => hce) ok70 ?_ (hbT ())
      iterate 3 ((try (refine drvZ Try.func33 ?_; simp (maxSteps := 9999999) only [go_sem, boolsD, BC, hb1, hb2])); (try ((with_reducible refine And.intro ?_ ?_) <;> (repeat' with_reducible apply And.intro) <;> try exact sd)))
      refine Go.loopQ (fun i : Nat => [(2, .c (.ptr 0 0)), (4, .c (.ptr 64 0)), (6, DI .i64 (accN ws i)), (22, .c (boolsD ws)), (23, DI .i64 ws.length), (24, DI .i64 i)])
        (fun _ => [(0, some (Pg.cells ⟨vs, ar, bd⟩)), (64, some [.v (.slice none 0 0), .v (.slice none 0 0), .v (.slice none 0 0)])]) 4096 (fun i => i ≤ ws.length) (fun i => ws.length - i) ?_ 0 some [] _ (Nat.zero_le _) ?_
      · intro i hi again
        rcases Nat.lt_or_ge i ws.length with hlt | hge
        · obtain ⟨b, hbx⟩ : ∃ b, ws[i]? = some b := ⟨ws[i], by simp [hlt]⟩
          have hgd : ws.getD i false = b := by rw [List.getD_eq_getElem?_getD, hbx]; rfl
          have hac : accN ws (i + 1) = accN ws i ||| (if b then 1 else 0) * 2 ^ i := by rw [accN, hgd]
          have hal := accN_lt ws i (by omega)
          have hp14 := pow14 (show i < 14 by omega)
          have hp14i := pow14i hp14
          have hpp : (0 : Int) < 2 ^ i := Int.pow_pos (by decide)
          have hbits : ((IntKind.i64).bits : Int) = 64 := rfl
          have hcast : (2 : Int) ^ i = ((2 ^ i : Nat) : Int) := by rw [Int.natCast_pow]; rfl
          generalize accN ws i = ac at *
          refine drvL Try.func33 ?_
          simp (maxSteps := 9999999) only [go_sem, boolsD, BC, hbx, hlt]
          iterate 2 ((try (refine drvZ Try.func33 ?_; simp (maxSteps := 9999999) only [go_sem, boolsD, BC, hbx, hlt])); (try ((with_reducible refine And.intro ?_ ?_) <;> (repeat' with_reducible apply And.intro) <;> try exact sd)))
          refine XK.plain (truth b) ok71 ?_ (hbT ())
          cases b with
          | true =>
            simp only [if_true, Nat.one_mul] at hac
            have h1 : ((2 : Int) ^ i).toNat = 2 ^ i := by rw [hcast]; rfl
            iterate 3 ((try (refine drvZ Try.func33 ?_; simp (maxSteps := 9999999) only [go_sem, boolsD, BC, hbits, if_true, Int.one_mul, h1])); (try ((with_reducible refine And.intro ?_ ?_) <;> (repeat' with_reducible apply And.intro) <;> try exact sd)))
            refine again (i + 1) some [] _ hlt (by omega) ?_
            simp (maxSteps := 9999999) only [go_sem, TmOK, DM, DMs, CM, CMs, forall_eq, exists_eq_left, Mq, HpOK, LowOK, boolsD, BC, hac]
            try simp
          | false =>
            simp only [Bool.false_eq_true, if_false, Nat.zero_mul, Nat.or_zero] at hac
            iterate 3 ((try (refine drvZ Try.func33 ?_; simp (maxSteps := 9999999) only [go_sem, boolsD, BC, hbits, Bool.false_eq_true, if_false, Int.zero_mul, Nat.or_zero])); (try ((with_reducible refine And.intro ?_ ?_) <;> (repeat' with_reducible apply And.intro) <;> try exact sd)))
            refine again (i + 1) some [] _ hlt (by omega) ?_
            simp (maxSteps := 9999999) only [go_sem, TmOK, DM, DMs, CM, CMs, forall_eq, exists_eq_left, Mq, HpOK, LowOK, boolsD, BC, hac]
            try simp
        · have hn2 : ¬ i < ws.length := by omega
          obtain rfl : i = ws.length := by omega
          clear again
          refine drvL Try.func33 ?_
          simp (maxSteps := 9999999) only [go_sem, boolsD, BC, hn2]
          ((try (refine drvZ Try.func33 ?_; simp (maxSteps := 9999999) only [go_sem, boolsD, BC, hn2])); (try ((with_reducible refine And.intro ?_ ?_) <;> (repeat' with_reducible apply And.intro) <;> try exact sd)))
          refine Go.loopQ (fun N : Nat => [(2, .c (.ptr 0 0)), (4, .c (.ptr 64 0)), (6, DI .i64 N)])
            (fun _ => [(0, some (Pg.cells ⟨vs, ar, bd⟩)), (64, some [.v (.slice none 0 0), .v (.slice none 0 0), .v (.slice none 0 0)])]) 8192
            (fun N => N < 16384 ∧ (∀ i, ws.getD i false = true → N.testBit i = true) ∧ (∀ q' : Nat → Bool, (∀ i, ws.getD i false = true → q' i = true) → subB (setN q' vs.length 5 bd) q' → leB N.testBit q')) (fun N => 16384 - N) ?_ (accN ws ws.length) some [] _ ⟨accN_lt ws _ (by omega), fun i hi => ?_, fun q' a b i hi => ?_⟩ ?_
          · rintro N ⟨hN, hN1, hN2⟩ again
            have hS := hset N.testBit
            have hS2 := hsl N hN
            have hfi := hfin N hN1 hN2
            have hst := hstep N hN2
            have hge := or_ge N (setN N.testBit vs.length 5 bd)
            have hlt2 := or_lt hN hS
            generalize hSS : setN N.testBit vs.length 5 bd = SS at *
            refine drvL Try.func33 ?_
            simp (maxSteps := 9999999) only [go_sem]
            refine XK.plain hS2 ok72 ?_ (hbT ())
            by_cases heq : N ||| SS = N
            · have c1 : (((N ||| SS : Nat) : Int) == (N : Int)) = true := by rw [heq]; simp
              have c2 : (((N ||| SS : Nat) : Int) = (N : Int)) = True := eq_true (by rw [heq])
              iterate 3 ((try (refine drvZ Try.func33 ?_; simp (maxSteps := 9999999) only [go_sem, c1, c2])); (try ((with_reducible refine And.intro ?_ ?_) <;> (repeat' with_reducible apply And.intro) <;> try exact sd)))
              refine XK.callG [] (hcl1 (by omega)) ok73 (fun i' x h => by simp at h) (hbT ()) (fun d h' ⟨_, e⟩ => by subst e; simp) ?_ (fun _ => ⟨by kernel_rfl, _, _, ⟨rfl, rfl⟩, by simp⟩)
              rintro _ _ ⟨rfl, rfl⟩ _
              iterate 2 ((try (refine drvZ Try.func33 ?_; simp (maxSteps := 9999999) only [go_sem, renCs_I])); (try ((with_reducible refine And.intro ?_ ?_) <;> (repeat' with_reducible apply And.intro) <;> try exact sd)))
              refine XK.callG [] (hcl2 (by omega)) ok73 (fun i' x h => by simp at h) (hbT ()) (fun d h' ⟨_, e⟩ => by subst e; simp) ?_ (fun _ => ⟨by kernel_rfl, _, _, ⟨rfl, rfl⟩, by simp⟩)
              rintro _ _ ⟨rfl, rfl⟩ _
              iterate 2 ((try (refine drvZ Try.func33 ?_; simp (maxSteps := 9999999) only [go_sem, renCs_I])); (try ((with_reducible refine And.intro ?_ ?_) <;> (repeat' with_reducible apply And.intro) <;> try exact sd)))
              refine XK.plain (hown N.testBit) ok74 ?_ (hbT ()) (fun _ => by kernel_rfl)
              iterate 3 ((try (refine drvZ Try.func33 ?_; simp (maxSteps := 9999999) only [go_sem, renCs_I])); (try ((with_reducible refine And.intro ?_ ?_) <;> (repeat' with_reducible apply And.intro) <;> try exact sd)))
              refine RetOb.ofQ (fun _ => none) [9280, 9472] (.tup [.agg (Pg.cells (slP ⟨vs, ar, bd⟩ N.testBit)), DB true]) [] ?_ (by rw [← hR]; exact ⟨rfl, .inl ⟨hcond, N.testBit, hfi heq, rfl⟩⟩) (by simp)
              simp [enumL, DM, DMs, CM, CMs, HpOK, LowOK, Pg.cells, slP, isI, hOf, upd, flat_I, kf]
            · have c1 : (((N ||| SS : Nat) : Int) == (N : Int)) = false := by simp only [beq_eq_false_iff_ne]; omega
              have c2 : (((N ||| SS : Nat) : Int) = (N : Int)) = False := eq_false (by omega)
              iterate 3 ((try (refine drvZ Try.func33 ?_; simp (maxSteps := 9999999) only [go_sem, c1, c2])); (try ((with_reducible refine And.intro ?_ ?_) <;> (repeat' with_reducible apply And.intro) <;> try exact sd)))
              refine again (N ||| SS) some [] _ ⟨hlt2, fun i hi => by rw [Nat.testBit_or, hN1 i hi, Bool.true_or], hst⟩ (by omega) ?_
              simp (maxSteps := 9999999) only [go_sem, TmOK, DM, DMs, CM, CMs, forall_eq, exists_eq_left, Mq, HpOK, LowOK]
              try simp
          · have hlt : i < ws.length := by
              rcases Nat.lt_or_ge i ws.length with h | h
              · exact h
              · rw [List.getD_eq_getElem?_getD, List.getElem?_eq_none h] at hi; cases hi
            rw [accN_bit, hi]; simp [hlt]
          · rw [accN_bit, Bool.and_eq_true] at hi
            exact a i hi.2
          · simp (maxSteps := 9999999) only [go_sem, TmOK, DM, DMs, CM, CMs, forall_eq, exists_eq_left, Mq, HpOK, LowOK]
            try simp
      · simp (maxSteps := 9999999) only [go_sem, TmOK, DM, DMs, CM, CMs, forall_eq, exists_eq_left, Mq, HpOK, LowOK, boolsD, BC, accN]
        try simp
    · have hb1 : ((ws.length : Int) != ((p.vars.length + p.arrays.length : Nat) : Int)) = true := by simp only [bne_iff_ne]; omega
      have hb2 : ((ws.length : Int) = ((p.vars.length + p.arrays.length : Nat) : Int)) = False := eq_false (by omega)
      obtain ⟨vs, ar, bd⟩ := p
      simp only at hb1 hb2 hce
      refine dcZ Try.func33 ?_
      simp (maxSteps := 9999999) only [go_sem]
      ((try (refine drvZ Try.func33 ?_; simp (maxSteps := 9999999) only [go_sem])); (try ((with_reducible refine And.intro ?_ ?_) <;> (repeat' with_reducible apply And.intro) <;> try exact sd)))
      refine XK.plain hv ok44 ?_ (hbT ())
      iterate 2 ((try (refine drvZ Try.func33 ?_; simp (maxSteps := 9999999) only [go_sem, boolsD, BC])); (try ((with_reducible refine And.intro ?_ ?_) <;> (repeat' with_reducible apply And.intro) <;> try exact sd)))
      refine XK.gplain 3 false true (fun _ => hce) ok70 ?_ (hbT ())
      generalize ((vs.length + ar.length : Nat) : Int) = cc at *
      iterate 3 ((try (refine drvZ Try.func33 ?_; simp (maxSteps := 9999999) only [go_sem, boolsD, BC, hb1, hb2])); (try ((with_reducible refine And.intro ?_ ?_) <;> (repeat' with_reducible apply And.intro) <;> try exact sd)))
      exact bad _ (by rw [hq]; simpa using hwl)
end Go.Proofs.Ytclgjiffpijgmaa.CtD

namespace Go.Proofs.Ytclgjiffpijgmaa.CtD
open Go Go.CT CtF CtR

def usesL (nv : Nat) : Nat → Ex → List Bool → List Bool
  | 0, _, L => L
  | d + 1, .mk k v ks, L => ks.foldl (fun L x => usesL nv d x L) (if k = 2 then L.set v.toNat true else if k = 3 then L.set (nv + v.toNat) true else L)
theorem usesL_len (nv : Nat) : ∀ (d : Nat) (e : Ex) (L : List Bool), (usesL nv d e L).length = L.length
  | 0, _, L => rfl
  | d + 1, .mk k v ks, L => by
    have gen : ∀ (ks : List Ex) (L : List Bool), (ks.foldl (fun L x => usesL nv d x L) L).length = L.length := fun ks => by
      induction ks with
      | nil => intro L; rfl
      | cons a r ih => intro L; rw [List.foldl_cons, ih, usesL_len nv d a L]
    simp only [usesL]
    rw [gen]
    split
    · simp
    · split <;> simp

theorem usesS (p : Pg) (hn : p.vars.length + p.arrays.length ≤ 14) : ∀ (d : Nat) (e : Ex) (L : List Bool), CtR.shape p d e = true → L.length = p.vars.length + p.arrays.length →
    DC Try.prog 119 [.agg p.cells, .agg e.cells, .c (.msl 0 1 0 L.length)] [some (boolsC L)] (fun r h => r = .tup [] ∧ h = [some (boolsC (usesL p.vars.length d e L))]) := by
  have hmx := mx_eq
  intro d
  induction d with
  | zero => intro e L h; simp [CtR.shape] at h
  | succ d ih =>
    intro e L hsh hL
    obtain ⟨k, v, ks⟩ := e
    obtain ⟨g1, g2, g3⟩ := shape_succ hsh
    obtain ⟨hl3, hla, hv0, hv1⟩ := fits_len g1
    have hlim : k = 2 → v < p.vars.length := fun hk => by subst hk; simpa [limit] using hv1
    have hlim3 : k = 3 → v < p.arrays.length := fun hk => by subst hk; simpa [limit] using hv1
    obtain ⟨vs, ar, bd⟩ := p
    have hn : vs.length + ar.length ≤ 14 := hn
    have hL : L.length = vs.length + ar.length := hL
    simp only at hlim hlim3 ih
    generalize hR : (fun (r : D) (h : List (Option (List C))) => r = .tup [] ∧ h = [some (boolsC (usesL vs.length (d + 1) (.mk k v ks) L))]) = R
    obtain ⟨M, hM⟩ : ∃ M, M = (if k = 2 then L.set v.toNat true else if k = 3 then L.set (vs.length + v.toNat) true else L) := ⟨_, rfl⟩
    have hMl : M.length = L.length := by rw [hM]; split <;> (try split) <;> simp
    have hres : usesL vs.length (d + 1) (.mk k v ks) L = ks.foldl (fun L x => usesL vs.length d x L) M := by rw [hM]; rfl
    have hfl : ∀ i, ((ks.take i).foldl (fun L x => usesL vs.length d x L) M).length = L.length := fun i => by
      rw [← hMl]
      generalize ks.take i = l
      have gen : ∀ (l : List Ex) (L : List Bool), (l.foldl (fun L x => usesL vs.length d x L) L).length = L.length := fun l => by
        induction l with
        | nil => intro L; rfl
        | cons a r ih => intro L; rw [List.foldl_cons, ih, usesL_len]
      exact gen l M
    have hfs : ∀ i x, ks[i]? = some x → (ks.take (i + 1)).foldl (fun L x => usesL vs.length d x L) M = usesL vs.length d x ((ks.take i).foldl (fun L x => usesL vs.length d x L) M) := fun i x h => by
      rw [List.take_add_one, h]; simp
    have hbl := boolsC_len L
    have hMb : boolsC M = boolsC (if k = 2 then L.set v.toNat true else if k = 3 then L.set (vs.length + v.toNat) true else L) := by rw [hM]
    rw [hres] at hR
    have key : k = 2 ∨ k = 3 ∨ (k ≠ 2 ∧ k ≠ 3) := by omega
    rcases key with hk | hk | ⟨hk2, hk3⟩
    · have hv2 := hlim hk
      have e2 : (k == 2) = true := by simp [hk]
      have f2 : (k = 2) = True := by simp [hk]
      have e3 : (k == 3) = false := by simp [hk]
      have f3 : (k = 3) = False := by simp [hk]
      refine dcZ Try.func119 ?_
      simp (maxSteps := 9999999) only [go_sem, e2, f2, e3, f3]
      iterate 4 ((try (refine drvZ Try.func119 ?_; simp (maxSteps := 9999999) only [go_sem, e2, f2, e3, f3, boolsC_set, hbl])); (try ((with_reducible refine And.intro ?_ ?_) <;> (repeat' with_reducible apply And.intro) <;> try exact sd)))
      refine Go.loopQ (fun i : Nat => [(2, .c (.msl 0 1 0 L.length)), (3, .c (.ptr 1 0)), (4, .c (.ptr 65 0)), (6, DI .i64 i)])
        (fun i => [(0, some (boolsC ((ks.take i).foldl (fun L x => usesL vs.length d x L) M))), (1, some (Pg.cells ⟨vs, ar, bd⟩)), (65, some (Ex.cells (.mk k v ks)))])
        4096 (fun i => i ≤ ks.length) (fun i => ks.length - i) ?_ 0 some [] _ (Nat.zero_le _) ?_
      · intro i hi again
        have hfi := hfl i
        rcases Nat.lt_or_ge i ks.length with hlt | hge
        · obtain ⟨⟨k', v', ks'⟩, hx⟩ : ∃ x, ks[i]? = some x := ⟨ks[i], by simp [hlt]⟩
          have hsc := hfs i _ hx
          generalize (ks.take i).foldl (fun L x => usesL vs.length d x L) M = acc at *
          have hih := ih (.mk k' v' ks') acc (g2 _ (List.mem_of_getElem? hx)) (by omega)
          rw [hfi] at hih
          refine drvL Try.func119 ?_
          simp (maxSteps := 9999999) only [go_sem, hx, hlt]
          iterate 2 ((try (refine drvZ Try.func119 ?_; simp (maxSteps := 9999999) only [go_sem, hx, hlt])); (try ((with_reducible refine And.intro ?_ ?_) <;> (repeat' with_reducible apply And.intro) <;> try exact sd)))
          refine XK.callG [0] hih ok119 (hhp_one (by simp [hOf, upd, boolsC_ren])) (hbT ()) (fun d h' ⟨_, e⟩ => by subst e; simp) ?_ (fun _ => ⟨by kernel_rfl, _, _, ⟨rfl, rfl⟩, by simp⟩)
          rintro _ _ ⟨rfl, rfl⟩ _
          iterate 3 ((try (refine drvZ Try.func119 ?_; simp (maxSteps := 9999999) only [go_sem, hx, hlt, boolsC_ren])); (try ((with_reducible refine And.intro ?_ ?_) <;> (repeat' with_reducible apply And.intro) <;> try exact sd)))
          refine again (i + 1) some [] _ hlt (by omega) ?_
          simp (maxSteps := 9999999) only [go_sem, TmOK, DM, DMs, CM, CMs, forall_eq, exists_eq_left, Mq, HpOK, LowOK, hsc]
          simp
          exact CMs.kf (boolsC_kf _)
        · have hn2 : ¬ i < ks.length := by omega
          obtain rfl : i = ks.length := by omega
          refine drvL Try.func119 ?_
          simp (maxSteps := 9999999) only [go_sem, hn2, List.take_length]
          iterate 2 ((try (refine drvZ Try.func119 ?_; simp (maxSteps := 9999999) only [go_sem, hn2, List.take_length])); (try ((with_reducible refine And.intro ?_ ?_) <;> (repeat' with_reducible apply And.intro) <;> try exact sd)))
          refine RetOb.ofQ some [] (.tup []) [some (boolsC (ks.foldl (fun L x => usesL vs.length d x L) M))] ?_ (by rw [← hR]; exact ⟨rfl, rfl⟩) (by simp)
          simp [enumL, DM, DMs, HpOK, LowOK, hOf, upd]
          exact CMs.kf (boolsC_kf _)
      · simp (maxSteps := 9999999) only [go_sem, TmOK, DM, DMs, CM, CMs, forall_eq, exists_eq_left, Mq, HpOK, LowOK, List.take_zero, List.foldl_nil, hM, f2, if_true]
        simp
        exact CMs.kf (boolsC_kf _)
    · have hv2 := hlim3 hk
      have e2 : (k == 2) = false := by simp [hk]
      have f2 : (k = 2) = False := by simp [hk]
      have e3 : (k == 3) = true := by simp [hk]
      have f3 : (k = 3) = True := by simp [hk]
      have hpos : ((vs.length : Int) + v).toNat = vs.length + v.toNat := by omega
      refine dcZ Try.func119 ?_
      simp (maxSteps := 9999999) only [go_sem, e2, f2, e3, f3]
      iterate 4 ((try (refine drvZ Try.func119 ?_; simp (maxSteps := 9999999) only [go_sem, e2, f2, e3, f3, boolsC_set, hbl, hpos])); (try ((with_reducible refine And.intro ?_ ?_) <;> (repeat' with_reducible apply And.intro) <;> try exact sd)))
      refine Go.loopQ (fun i : Nat => [(2, .c (.msl 0 1 0 L.length)), (3, .c (.ptr 1 0)), (4, .c (.ptr 65 0)), (6, DI .i64 i)])
        (fun i => [(0, some (boolsC ((ks.take i).foldl (fun L x => usesL vs.length d x L) M))), (1, some (Pg.cells ⟨vs, ar, bd⟩)), (65, some (Ex.cells (.mk k v ks)))])
        4096 (fun i => i ≤ ks.length) (fun i => ks.length - i) ?_ 0 some [] _ (Nat.zero_le _) ?_
      · intro i hi again
        have hfi := hfl i
        rcases Nat.lt_or_ge i ks.length with hlt | hge
        · obtain ⟨⟨k', v', ks'⟩, hx⟩ : ∃ x, ks[i]? = some x := ⟨ks[i], by simp [hlt]⟩
          have hsc := hfs i _ hx
          generalize (ks.take i).foldl (fun L x => usesL vs.length d x L) M = acc at *
          have hih := ih (.mk k' v' ks') acc (g2 _ (List.mem_of_getElem? hx)) (by omega)
          rw [hfi] at hih
          refine drvL Try.func119 ?_
          simp (maxSteps := 9999999) only [go_sem, hx, hlt]
          iterate 2 ((try (refine drvZ Try.func119 ?_; simp (maxSteps := 9999999) only [go_sem, hx, hlt])); (try ((with_reducible refine And.intro ?_ ?_) <;> (repeat' with_reducible apply And.intro) <;> try exact sd)))
          refine XK.callG [0] hih ok119 (hhp_one (by simp [hOf, upd, boolsC_ren])) (hbT ()) (fun d h' ⟨_, e⟩ => by subst e; simp) ?_ (fun _ => ⟨by kernel_rfl, _, _, ⟨rfl, rfl⟩, by simp⟩)
          rintro _ _ ⟨rfl, rfl⟩ _
          iterate 3 ((try (refine drvZ Try.func119 ?_; simp (maxSteps := 9999999) only [go_sem, hx, hlt, boolsC_ren])); (try ((with_reducible refine And.intro ?_ ?_) <;> (repeat' with_reducible apply And.intro) <;> try exact sd)))
          refine again (i + 1) some [] _ hlt (by omega) ?_
          simp (maxSteps := 9999999) only [go_sem, TmOK, DM, DMs, CM, CMs, forall_eq, exists_eq_left, Mq, HpOK, LowOK, hsc]
          simp
          exact CMs.kf (boolsC_kf _)
        · have hn2 : ¬ i < ks.length := by omega
          obtain rfl : i = ks.length := by omega
          refine drvL Try.func119 ?_
          simp (maxSteps := 9999999) only [go_sem, hn2, List.take_length]
          iterate 2 ((try (refine drvZ Try.func119 ?_; simp (maxSteps := 9999999) only [go_sem, hn2, List.take_length])); (try ((with_reducible refine And.intro ?_ ?_) <;> (repeat' with_reducible apply And.intro) <;> try exact sd)))
          refine RetOb.ofQ some [] (.tup []) [some (boolsC (ks.foldl (fun L x => usesL vs.length d x L) M))] ?_ (by rw [← hR]; exact ⟨rfl, rfl⟩) (by simp)
          simp [enumL, DM, DMs, HpOK, LowOK, hOf, upd]
          exact CMs.kf (boolsC_kf _)
      · simp (maxSteps := 9999999) only [go_sem, TmOK, DM, DMs, CM, CMs, forall_eq, exists_eq_left, Mq, HpOK, LowOK, List.take_zero, List.foldl_nil, hM, f2, f3, if_true, if_false]
        simp
        exact CMs.kf (boolsC_kf _)
    · have e2 : (k == 2) = false := by simp [hk2]
      have e3 : (k == 3) = false := by simp [hk3]
      refine dcZ Try.func119 ?_
      simp (maxSteps := 9999999) only [go_sem, hk2, hk3, e2, e3]
      iterate 4 ((try (refine drvZ Try.func119 ?_; simp (maxSteps := 9999999) only [go_sem, hk2, hk3, e2, e3])); (try ((with_reducible refine And.intro ?_ ?_) <;> (repeat' with_reducible apply And.intro) <;> try exact sd)))
      refine Go.loopQ (fun i : Nat => [(2, .c (.msl 0 1 0 L.length)), (3, .c (.ptr 1 0)), (4, .c (.ptr 65 0)), (6, DI .i64 i)])
        (fun i => [(0, some (boolsC ((ks.take i).foldl (fun L x => usesL vs.length d x L) M))), (1, some (Pg.cells ⟨vs, ar, bd⟩)), (65, some (Ex.cells (.mk k v ks)))])
        4096 (fun i => i ≤ ks.length) (fun i => ks.length - i) ?_ 0 some [] _ (Nat.zero_le _) ?_
      · intro i hi again
        have hfi := hfl i
        rcases Nat.lt_or_ge i ks.length with hlt | hge
        · obtain ⟨⟨k', v', ks'⟩, hx⟩ : ∃ x, ks[i]? = some x := ⟨ks[i], by simp [hlt]⟩
          have hsc := hfs i _ hx
          generalize (ks.take i).foldl (fun L x => usesL vs.length d x L) M = acc at *
          have hih := ih (.mk k' v' ks') acc (g2 _ (List.mem_of_getElem? hx)) (by omega)
          rw [hfi] at hih
          refine drvL Try.func119 ?_
          simp (maxSteps := 9999999) only [go_sem, hx, hlt]
          iterate 2 ((try (refine drvZ Try.func119 ?_; simp (maxSteps := 9999999) only [go_sem, hx, hlt])); (try ((with_reducible refine And.intro ?_ ?_) <;> (repeat' with_reducible apply And.intro) <;> try exact sd)))
          refine XK.callG [0] hih ok119 (hhp_one (by simp [hOf, upd, boolsC_ren])) (hbT ()) (fun d h' ⟨_, e⟩ => by subst e; simp) ?_ (fun _ => ⟨by kernel_rfl, _, _, ⟨rfl, rfl⟩, by simp⟩)
          rintro _ _ ⟨rfl, rfl⟩ _
          iterate 3 ((try (refine drvZ Try.func119 ?_; simp (maxSteps := 9999999) only [go_sem, hx, hlt, boolsC_ren])); (try ((with_reducible refine And.intro ?_ ?_) <;> (repeat' with_reducible apply And.intro) <;> try exact sd)))
          refine again (i + 1) some [] _ hlt (by omega) ?_
          simp (maxSteps := 9999999) only [go_sem, TmOK, DM, DMs, CM, CMs, forall_eq, exists_eq_left, Mq, HpOK, LowOK, hsc]
          simp
          exact CMs.kf (boolsC_kf _)
        · have hn2 : ¬ i < ks.length := by omega
          obtain rfl : i = ks.length := by omega
          refine drvL Try.func119 ?_
          simp (maxSteps := 9999999) only [go_sem, hn2, List.take_length]
          iterate 2 ((try (refine drvZ Try.func119 ?_; simp (maxSteps := 9999999) only [go_sem, hn2, List.take_length])); (try ((with_reducible refine And.intro ?_ ?_) <;> (repeat' with_reducible apply And.intro) <;> try exact sd)))
          refine RetOb.ofQ some [] (.tup []) [some (boolsC (ks.foldl (fun L x => usesL vs.length d x L) M))] ?_ (by rw [← hR]; exact ⟨rfl, rfl⟩) (by simp)
          simp [enumL, DM, DMs, HpOK, LowOK, hOf, upd]
          exact CMs.kf (boolsC_kf _)
      · simp (maxSteps := 9999999) only [go_sem, TmOK, DM, DMs, CM, CMs, forall_eq, exists_eq_left, Mq, HpOK, LowOK, List.take_zero, List.foldl_nil, hM, hk2, hk3, if_false]
        simp
        exact CMs.kf (boolsC_kf _)
end Go.Proofs.Ytclgjiffpijgmaa.CtD

namespace Go.Proofs.Ytclgjiffpijgmaa.CtD
open Go Go.CT CtF CtR

theorem usesS0 (p : Pg) (L : List Bool) : DC Try.prog 119 [.agg p.cells, .agg (Ex.cells (.mk 0 0 [])), .c (.msl 0 1 0 L.length)] [some (boolsC L)] (fun r h => r = .tup [] ∧ h = [some (boolsC L)]) := by
  obtain ⟨vs, ar, bd⟩ := p
  generalize hR : (fun (r : D) (h : List (Option (List C))) => r = .tup [] ∧ h = [some (boolsC L)]) = R
  refine dcZ Try.func119 ?_
  simp (maxSteps := 9999999) only [go_sem, Ex.cellsL, Int.natCast_zero]
  iterate 3 ((try (refine drvZ Try.func119 ?_; simp (maxSteps := 9999999) only [go_sem, Ex.cellsL, Int.natCast_zero])); (try ((with_reducible refine And.intro ?_ ?_) <;> (repeat' with_reducible apply And.intro) <;> try exact sd)))
  refine Go.loop ?_
  have hz : ((0 : Int) < 0) = False := eq_false (by omega)
  refine drvL Try.func119 ?_
  simp (maxSteps := 9999999) only [go_sem, Ex.cellsL, Int.natCast_zero, hz]
  iterate 2 ((try (refine drvZ Try.func119 ?_; simp (maxSteps := 9999999) only [go_sem, Ex.cellsL, Int.natCast_zero, hz])); (try ((with_reducible refine And.intro ?_ ?_) <;> (repeat' with_reducible apply And.intro) <;> try exact sd)))
  refine RetOb.ofQ some [] (.tup []) [some (boolsC L)] ?_ (by rw [← hR]; exact ⟨rfl, rfl⟩) (by simp)
  simp [enumL, DM, DMs, HpOK, LowOK, hOf, upd, hpL]
  exact CMs.kf (boolsC_kf _)
theorem usesE {p : Pg} (hn : p.vars.length + p.arrays.length ≤ 14) {e : Ex} (h : CtR.shape p 5 e = true ∨ e = .mk 0 0 []) (L : List Bool) (hL : L.length = p.vars.length + p.arrays.length) :
    DC Try.prog 119 [.agg p.cells, .agg e.cells, .c (.msl 0 1 0 L.length)] [some (boolsC L)] (fun r h => r = .tup [] ∧ h = [some (boolsC (usesL p.vars.length 5 e L))]) := by
  rcases h with h | rfl
  · exact usesS p hn 5 e L h hL
  · exact usesS0 p L

def needS (nv : Nat) (f : List St1 → List Bool → Bool × List Bool) (L : List Bool) : St1 → Bool × List Bool
  | .mk k t ix v c b e =>
    let y := if k = 1 then (L.getD t.toNat false, L) else if k = 2 then (L.getD (nv + t.toNat) false, L) else if k = 5 then (true, L) else ((f b L).1 || (f e (f b L).2).1, (f e (f b L).2).2)
    (y.1, if y.1 then usesL nv 5 ix (usesL nv 5 v y.2) else y.2)
def needL (nv : Nat) : Nat → List St1 → List Bool → Bool × List Bool
  | 0, _, L => (false, L)
  | d + 1, l, L => l.foldl (fun x s => (x.1 || (needS nv (needL nv d) x.2 s).1, (needS nv (needL nv d) x.2 s).2)) (false, L)
theorem needS_len {nv : Nat} {f : List St1 → List Bool → Bool × List Bool} (hf : ∀ l L, (f l L).2.length = L.length) (L : List Bool) (s : St1) : (needS nv f L s).2.length = L.length := by
  obtain ⟨k, t, ix, v, c, b, e⟩ := s
  simp only [needS]
  have h1 : ∀ y : Bool × List Bool, y.2.length = L.length → (if y.1 then usesL nv 5 ix (usesL nv 5 v y.2) else y.2).length = L.length := fun y h => by
    split
    · rw [usesL_len, usesL_len, h]
    · exact h
  apply h1
  by_cases a1 : k = 1
  · rw [if_pos a1]
  rw [if_neg a1]
  by_cases a2 : k = 2
  · rw [if_pos a2]
  rw [if_neg a2]
  by_cases a5 : k = 5
  · rw [if_pos a5]
  rw [if_neg a5]
  simp only [hf]
theorem needL_len (nv : Nat) : ∀ (d : Nat) (l : List St1) (L : List Bool), (needL nv d l L).2.length = L.length
  | 0, l, L => rfl
  | d + 1, l, L => by
    have gen : ∀ (l : List St1) (x : Bool × List Bool), (l.foldl (fun x s => (x.1 || (needS nv (needL nv d) x.2 s).1, (needS nv (needL nv d) x.2 s).2)) x).2.length = x.2.length := fun l => by
      induction l with
      | nil => intro x; rfl
      | cons a r ih => intro x; rw [List.foldl_cons, ih, needS_len (needL_len nv d)]
    exact gen l (false, L)
theorem boolsC_at {L : List Bool} {i : Nat} (h : i < L.length) : (boolsC L)[i]? = some (.v (.bool (L.getD i false))) := by
  unfold boolsC
  rw [List.getElem?_map, List.getD_eq_getElem?_getD, List.getElem?_eq_getElem h]; rfl

theorem needsS (p : Pg) (hn : p.vars.length + p.arrays.length ≤ 14) : ∀ (d : Nat) (l : List St1) (L : List Bool), (∀ s ∈ l, stmtOK p d s = true) → lsize d l ≤ 1000 → L.length = p.vars.length + p.arrays.length →
    DC Try.prog 75 [.agg p.cells, .c (.isl 11 (St1.cellsL l)), .c (.msl 0 1 0 L.length)] [some (boolsC L)] (fun r h => r = DB (needL p.vars.length d l L).1 ∧ h = [some (boolsC (needL p.vars.length d l L).2)]) := by
  have hmx := mx_eq
  intro d
  induction d with
  | zero =>
    intro l L hok hsz hL
    have hnil : l = [] := by
      cases l with
      | nil => rfl
      | cons a r => have := hok a (by simp); simp [stmtOK] at this
    subst hnil
    obtain ⟨vs, ar, bd⟩ := p
    simp only [needL]
    generalize hR : (fun (r : D) (h : List (Option (List C))) => r = DB false ∧ h = [some (boolsC L)]) = R
    refine dcZ Try.func75 ?_
    simp (maxSteps := 9999999) only [go_sem, St1.cellsL, Int.natCast_zero]
    iterate 2 ((try (refine drvZ Try.func75 ?_; simp (maxSteps := 9999999) only [go_sem, St1.cellsL, Int.natCast_zero])); (try ((with_reducible refine And.intro ?_ ?_) <;> (repeat' with_reducible apply And.intro) <;> try exact sd)))
    refine Go.loop ?_
    have hz : ((0 : Int) < 0) = False := eq_false (by omega)
    refine drvL Try.func75 ?_
    simp (maxSteps := 9999999) only [go_sem, St1.cellsL, Int.natCast_zero, hz]
    iterate 2 ((try (refine drvZ Try.func75 ?_; simp (maxSteps := 9999999) only [go_sem, St1.cellsL, Int.natCast_zero, hz])); (try ((with_reducible refine And.intro ?_ ?_) <;> (repeat' with_reducible apply And.intro) <;> try exact sd)))
    refine RetOb.ofQ some [] (DB false) [some (boolsC L)] ?_ (by rw [← hR]; exact ⟨rfl, rfl⟩) (by simp)
    simp [enumL, hOf, DM, CM, HpOK, LowOK, upd, hpL]
    exact CMs.kf (boolsC_kf _)
  | succ d ih =>
    intro l L hok hsz hL
    have hsub := lsize_subs d l
    have hus := fun e h L hL => @usesE p hn e h L hL
    have hnl := fun l => needL_len p.vars.length d l
    obtain ⟨F, hF⟩ : ∃ F : Nat → Bool × List Bool, ∀ i, F i = (l.take i).foldl (fun x s => (x.1 || (needS p.vars.length (needL p.vars.length d) x.2 s).1, (needS p.vars.length (needL p.vars.length d) x.2 s).2)) (false, L) := ⟨_, fun _ => rfl⟩
    have hF0 : F 0 = (false, L) := by rw [hF]; simp
    have hFs : ∀ {i : Nat} {s : St1}, l[i]? = some s → F (i + 1) = ((F i).1 || (needS p.vars.length (needL p.vars.length d) (F i).2 s).1, (needS p.vars.length (needL p.vars.length d) (F i).2 s).2) := fun {i s} h => by
      rw [hF (i + 1), List.take_add_one, h, hF i]; simp
    have hFe : needL p.vars.length (d + 1) l L = F l.length := by rw [hF, List.take_length]; rfl
    have hFl : ∀ i, (F i).2.length = L.length := fun i => by
      rw [hF]
      have gen : ∀ (l : List St1) (x : Bool × List Bool), (l.foldl (fun x s => (x.1 || (needS p.vars.length (needL p.vars.length d) x.2 s).1, (needS p.vars.length (needL p.vars.length d) x.2 s).2)) x).2.length = x.2.length := fun l => by
        induction l with
        | nil => intro x; rfl
        | cons a r ih => intro x; rw [List.foldl_cons, ih, needS_len (needL_len _ d)]
      exact gen _ _
    clear hF
    rw [hFe]
    obtain ⟨vs, ar, bd⟩ := p
    have hn : vs.length + ar.length ≤ 14 := hn
    have hL : L.length = vs.length + ar.length := hL
    simp only at hus hnl hFs ih
    generalize hR : (fun (r : D) (h : List (Option (List C))) => r = DB (F l.length).1 ∧ h = [some (boolsC (F l.length).2)]) = R
    refine dcZ Try.func75 ?_
    simp (maxSteps := 9999999) only [go_sem]
    ((try (refine drvZ Try.func75 ?_; simp (maxSteps := 9999999) only [go_sem])); (try ((with_reducible refine And.intro ?_ ?_) <;> (repeat' with_reducible apply And.intro) <;> try exact sd)))
    refine Go.loopQ (fun i : Nat => [(1, .c (.isl 11 (St1.cellsL l))), (2, .c (.msl 0 1 0 L.length)), (3, .c (.ptr 1 0)), (7, DB (F i).1), (8, DI .i64 i)])
      (fun i => [(0, some (boolsC (F i).2)), (1, some (Pg.cells ⟨vs, ar, bd⟩))]) 4096 (fun i => i ≤ l.length) (fun i => l.length - i) ?_ 0 some [] _ (Nat.zero_le _) ?_
    · intro i hi again
      have hFi := hFl i
      rcases Nat.lt_or_ge i l.length with hlt | hge
      · obtain ⟨⟨k, t, ⟨ik, iv, iks⟩, ⟨vk, vv, vks⟩, c, b, e⟩, hx⟩ : ∃ x, l[i]? = some x := ⟨l[i], by simp [hlt]⟩
        have hsok := hok _ (List.mem_of_getElem? hx)
        have hex := exprs_of hsok
        have hbe := stmtOK_succ hsok
        have hhk := head_kind hbe.1
        simp only at hhk
        have a1 := tsum_succ (subs d) l i _ hx
        have a2 := tsum_le (subs d) l (i + 1)
        simp only [subs, St1.body, St1.els] at a1 a2
        have hs := hFs hx
        have hFn := hFl (i + 1)

        generalize F i = Fi at *
        obtain ⟨so, Li⟩ := Fi
        simp only at hFi hs
        have hat := @boolsC_at Li
        have key : k = 5 ∨ k = 1 ∨ k = 2 ∨ (k ≠ 5 ∧ k ≠ 1 ∧ k ≠ 2) := by omega
        rcases key with hk | hk | hk | ⟨hk5, hk1, hk2⟩
        · subst hk
          have hFE : F (i + 1) = (true, usesL vs.length 5 (.mk ik iv iks) (usesL vs.length 5 (.mk vk vv vks) Li)) := by rw [hs]; simp [needS]
          refine drvL Try.func75 ?_
          simp (maxSteps := 9999999) only [go_sem, hx, hlt]
          iterate 9 ((try (refine drvZ Try.func75 ?_; simp (maxSteps := 9999999) only [go_sem, hx, hlt])); (try ((with_reducible refine And.intro ?_ ?_) <;> (repeat' with_reducible apply And.intro) <;> try exact sd)))
          have u1 := hus _ hex.2 Li (by omega)
          have u2 := hus _ hex.1 (usesL vs.length 5 (.mk vk vv vks) Li) (by rw [usesL_len]; omega)
          rw [usesL_len] at u2
          rw [hFi] at u1 u2
          refine XK.callG [0] u1 ok119 (hhp_one (by simp [hOf, upd, boolsC_ren])) (hbT ()) (fun d h' ⟨_, e⟩ => by subst e; simp) ?_ (fun _ => ⟨by kernel_rfl, _, _, ⟨rfl, rfl⟩, by simp⟩)
          rintro _ _ ⟨rfl, rfl⟩ _
          iterate 3 ((try (refine drvZ Try.func75 ?_; simp (maxSteps := 9999999) only [go_sem, boolsC_ren])); (try ((with_reducible refine And.intro ?_ ?_) <;> (repeat' with_reducible apply And.intro) <;> try exact sd)))
          refine XK.callG [0] u2 ok119 (hhp_one (by simp [hOf, upd, boolsC_ren])) (hbT ()) (fun d h' ⟨_, e⟩ => by subst e; simp) ?_ (fun _ => ⟨by kernel_rfl, _, _, ⟨rfl, rfl⟩, by simp⟩)
          rintro _ _ ⟨rfl, rfl⟩ _
          cases so <;> (iterate 4 ((try (refine drvZ Try.func75 ?_; simp (maxSteps := 9999999) only [go_sem, boolsC_ren])); (try ((with_reducible refine And.intro ?_ ?_) <;> (repeat' with_reducible apply And.intro) <;> try exact sd))))
          all_goals
            refine again (i + 1) some [] _ hlt (by omega) ?_
            rw [hFE]
            simp (maxSteps := 9999999) only [go_sem, TmOK, DM, DMs, CM, CMs, forall_eq, exists_eq_left, Mq, HpOK, LowOK, List.cons_append, List.nil_append]
            simp
            exact CMs.kf (boolsC_kf _)
        · subst hk
          have ht : 0 ≤ t ∧ t < (vs.length : Int) := by omega
          have hpos : ((vs.length : Int) + t).toNat = vs.length + t.toNat := by omega
          have hat := hat (i := t.toNat) (by omega)
          cases hq : Li.getD t.toNat false with
          | true =>
            rw [hq] at hat
            have hFE : F (i + 1) = (true, usesL vs.length 5 (.mk ik iv iks) (usesL vs.length 5 (.mk vk vv vks) Li)) := by rw [hs]; simp only [needS, hq, Int.reduceEq, if_true, if_false, Bool.or_true, Bool.or_false, Bool.false_eq_true]
            refine drvL Try.func75 ?_
            simp (maxSteps := 9999999) only [go_sem, hx, hlt]
            iterate 9 ((try (refine drvZ Try.func75 ?_; simp (maxSteps := 9999999) only [go_sem, hx, hlt, hat, hpos])); (try ((with_reducible refine And.intro ?_ ?_) <;> (repeat' with_reducible apply And.intro) <;> try exact sd)))
            have u1 := hus _ hex.2 Li (by omega)
            have u2 := hus _ hex.1 (usesL vs.length 5 (.mk vk vv vks) Li) (by rw [usesL_len]; omega)
            rw [usesL_len] at u2
            rw [hFi] at u1 u2
            refine XK.callG [0] u1 ok119 (hhp_one (by simp [hOf, upd, boolsC_ren])) (hbT ()) (fun d h' ⟨_, e⟩ => by subst e; simp) ?_ (fun _ => ⟨by kernel_rfl, _, _, ⟨rfl, rfl⟩, by simp⟩)
            rintro _ _ ⟨rfl, rfl⟩ _
            iterate 3 ((try (refine drvZ Try.func75 ?_; simp (maxSteps := 9999999) only [go_sem, boolsC_ren])); (try ((with_reducible refine And.intro ?_ ?_) <;> (repeat' with_reducible apply And.intro) <;> try exact sd)))
            refine XK.callG [0] u2 ok119 (hhp_one (by simp [hOf, upd, boolsC_ren])) (hbT ()) (fun d h' ⟨_, e⟩ => by subst e; simp) ?_ (fun _ => ⟨by kernel_rfl, _, _, ⟨rfl, rfl⟩, by simp⟩)
            rintro _ _ ⟨rfl, rfl⟩ _
            cases so <;> (iterate 4 ((try (refine drvZ Try.func75 ?_; simp (maxSteps := 9999999) only [go_sem, boolsC_ren])); (try ((with_reducible refine And.intro ?_ ?_) <;> (repeat' with_reducible apply And.intro) <;> try exact sd))))
            all_goals
              refine again (i + 1) some [] _ hlt (by omega) ?_
              rw [hFE]
              simp (maxSteps := 9999999) only [go_sem, TmOK, DM, DMs, CM, CMs, forall_eq, exists_eq_left, Mq, HpOK, LowOK, List.cons_append, List.nil_append]
              simp
              exact CMs.kf (boolsC_kf _)
          | false =>
            rw [hq] at hat
            have hFE : F (i + 1) = (so, Li) := by rw [hs]; simp only [needS, hq, Int.reduceEq, if_true, if_false, Bool.or_true, Bool.or_false, Bool.false_eq_true]
            refine drvL Try.func75 ?_
            simp (maxSteps := 9999999) only [go_sem, hx, hlt]
            cases so <;> (iterate 9 ((try (refine drvZ Try.func75 ?_; simp (maxSteps := 9999999) only [go_sem, hx, hlt, hat, hpos])); (try ((with_reducible refine And.intro ?_ ?_) <;> (repeat' with_reducible apply And.intro) <;> try exact sd))))
            all_goals
              refine again (i + 1) some [] _ hlt (by omega) ?_
              rw [hFE]
              simp (maxSteps := 9999999) only [go_sem, TmOK, DM, DMs, CM, CMs, forall_eq, exists_eq_left, Mq, HpOK, LowOK, List.cons_append, List.nil_append]
              simp
              exact CMs.kf (boolsC_kf _)
        · subst hk
          have ht : 0 ≤ t ∧ t < (ar.length : Int) := by omega
          have hpos : ((vs.length : Int) + t).toNat = vs.length + t.toNat := by omega
          have hat := hat (i := (vs.length + t.toNat)) (by omega)
          cases hq : Li.getD (vs.length + t.toNat) false with
          | true =>
            rw [hq] at hat
            have hFE : F (i + 1) = (true, usesL vs.length 5 (.mk ik iv iks) (usesL vs.length 5 (.mk vk vv vks) Li)) := by rw [hs]; simp only [needS, hq, Int.reduceEq, if_true, if_false, Bool.or_true, Bool.or_false, Bool.false_eq_true]
            refine drvL Try.func75 ?_
            simp (maxSteps := 9999999) only [go_sem, hx, hlt]
            iterate 9 ((try (refine drvZ Try.func75 ?_; simp (maxSteps := 9999999) only [go_sem, hx, hlt, hat, hpos])); (try ((with_reducible refine And.intro ?_ ?_) <;> (repeat' with_reducible apply And.intro) <;> try exact sd)))
            have u1 := hus _ hex.2 Li (by omega)
            have u2 := hus _ hex.1 (usesL vs.length 5 (.mk vk vv vks) Li) (by rw [usesL_len]; omega)
            rw [usesL_len] at u2
            rw [hFi] at u1 u2
            refine XK.callG [0] u1 ok119 (hhp_one (by simp [hOf, upd, boolsC_ren])) (hbT ()) (fun d h' ⟨_, e⟩ => by subst e; simp) ?_ (fun _ => ⟨by kernel_rfl, _, _, ⟨rfl, rfl⟩, by simp⟩)
            rintro _ _ ⟨rfl, rfl⟩ _
            iterate 3 ((try (refine drvZ Try.func75 ?_; simp (maxSteps := 9999999) only [go_sem, boolsC_ren])); (try ((with_reducible refine And.intro ?_ ?_) <;> (repeat' with_reducible apply And.intro) <;> try exact sd)))
            refine XK.callG [0] u2 ok119 (hhp_one (by simp [hOf, upd, boolsC_ren])) (hbT ()) (fun d h' ⟨_, e⟩ => by subst e; simp) ?_ (fun _ => ⟨by kernel_rfl, _, _, ⟨rfl, rfl⟩, by simp⟩)
            rintro _ _ ⟨rfl, rfl⟩ _
            cases so <;> (iterate 4 ((try (refine drvZ Try.func75 ?_; simp (maxSteps := 9999999) only [go_sem, boolsC_ren])); (try ((with_reducible refine And.intro ?_ ?_) <;> (repeat' with_reducible apply And.intro) <;> try exact sd))))
            all_goals
              refine again (i + 1) some [] _ hlt (by omega) ?_
              rw [hFE]
              simp (maxSteps := 9999999) only [go_sem, TmOK, DM, DMs, CM, CMs, forall_eq, exists_eq_left, Mq, HpOK, LowOK, List.cons_append, List.nil_append]
              simp
              exact CMs.kf (boolsC_kf _)
          | false =>
            rw [hq] at hat
            have hFE : F (i + 1) = (so, Li) := by rw [hs]; simp only [needS, hq, Int.reduceEq, if_true, if_false, Bool.or_true, Bool.or_false, Bool.false_eq_true]
            refine drvL Try.func75 ?_
            simp (maxSteps := 9999999) only [go_sem, hx, hlt]
            cases so <;> (iterate 9 ((try (refine drvZ Try.func75 ?_; simp (maxSteps := 9999999) only [go_sem, hx, hlt, hat, hpos])); (try ((with_reducible refine And.intro ?_ ?_) <;> (repeat' with_reducible apply And.intro) <;> try exact sd))))
            all_goals
              refine again (i + 1) some [] _ hlt (by omega) ?_
              rw [hFE]
              simp (maxSteps := 9999999) only [go_sem, TmOK, DM, DMs, CM, CMs, forall_eq, exists_eq_left, Mq, HpOK, LowOK, List.cons_append, List.nil_append]
              simp
              exact CMs.kf (boolsC_kf _)
        · have e5 : (k == 5) = false := by simp [hk5]
          have e1 : (k == 1) = false := by simp [hk1]
          have e2 : (k == 2) = false := by simp [hk2]
          have ihb := ih b Li hbe.2.1 (by omega) (by omega)
          have hn1 := hnl b Li
          have hnd : needS vs.length (needL vs.length d) Li (.mk k t (.mk ik iv iks) (.mk vk vv vks) c b e) = ((needL vs.length d b Li).1 || (needL vs.length d e (needL vs.length d b Li).2).1, if ((needL vs.length d b Li).1 || (needL vs.length d e (needL vs.length d b Li).2).1) then usesL vs.length 5 (.mk ik iv iks) (usesL vs.length 5 (.mk vk vv vks) (needL vs.length d e (needL vs.length d b Li).2).2) else (needL vs.length d e (needL vs.length d b Li).2).2) := by simp [needS, hk5, hk1, hk2]
          rw [hnd] at hs
          generalize needL vs.length d b Li = y1 at *
          obtain ⟨yb, L1⟩ := y1
          simp only at hn1 hs ihb
          have ihe := ih e L1 hbe.2.2 (by omega) (by omega)
          have hn2 := hnl e L1
          generalize needL vs.length d e L1 = y2 at *
          obtain ⟨ye, L2⟩ := y2
          simp only at hn2 hs ihe
          rw [hFi] at ihb
          rw [hn1, hFi] at ihe
          have hL2 : L2.length = L.length := by omega
          refine drvL Try.func75 ?_
          simp (maxSteps := 9999999) only [go_sem, hx, hlt, e5, e1, e2, hk5, hk1, hk2]
          iterate 8 ((try (refine drvZ Try.func75 ?_; simp (maxSteps := 9999999) only [go_sem, hx, hlt, e5, e1, e2, hk5, hk1, hk2])); (try ((with_reducible refine And.intro ?_ ?_) <;> (repeat' with_reducible apply And.intro) <;> try exact sd)))
          refine XK.callG [0] ihb ok75 (hhp_one (by simp [hOf, upd, boolsC_ren])) (hbT ()) (fun d h' ⟨_, e⟩ => by subst e; simp) ?_ (fun _ => ⟨by kernel_rfl, _, _, ⟨rfl, rfl⟩, by simp⟩)
          rintro _ _ ⟨rfl, rfl⟩ _
          iterate 3 ((try (refine drvZ Try.func75 ?_; simp (maxSteps := 9999999) only [go_sem, boolsC_ren])); (try ((with_reducible refine And.intro ?_ ?_) <;> (repeat' with_reducible apply And.intro) <;> try exact sd)))
          refine XK.callG [0] ihe ok75 (hhp_one (by simp [hOf, upd, boolsC_ren])) (hbT ()) (fun d h' ⟨_, e⟩ => by subst e; simp) ?_ (fun _ => ⟨by kernel_rfl, _, _, ⟨rfl, rfl⟩, by simp⟩)
          rintro _ _ ⟨rfl, rfl⟩ _
          by_cases hor : (yb || ye) = true
          · have hFE : F (i + 1) = (true, usesL vs.length 5 (.mk ik iv iks) (usesL vs.length 5 (.mk vk vv vks) L2)) := by rw [hs]; simp [hor]
            have hc : yb = true ∨ (yb = false ∧ ye = true) := by cases yb <;> simp_all
            rcases hc with rfl | ⟨rfl, rfl⟩
            all_goals
              iterate 4 ((try (refine drvZ Try.func75 ?_; simp (maxSteps := 9999999) only [go_sem, boolsC_ren])); (try ((with_reducible refine And.intro ?_ ?_) <;> (repeat' with_reducible apply And.intro) <;> try exact sd)))
              have u1 := hus _ hex.2 L2 (by omega)
              have u2 := hus _ hex.1 (usesL vs.length 5 (.mk vk vv vks) L2) (by rw [usesL_len]; omega)
              rw [usesL_len] at u2
              rw [hL2] at u1 u2
              refine XK.callG [0] u1 ok119 (hhp_one (by simp [hOf, upd, boolsC_ren])) (hbT ()) (fun d h' ⟨_, e⟩ => by subst e; simp) ?_ (fun _ => ⟨by kernel_rfl, _, _, ⟨rfl, rfl⟩, by simp⟩)
              rintro _ _ ⟨rfl, rfl⟩ _
              iterate 3 ((try (refine drvZ Try.func75 ?_; simp (maxSteps := 9999999) only [go_sem, boolsC_ren])); (try ((with_reducible refine And.intro ?_ ?_) <;> (repeat' with_reducible apply And.intro) <;> try exact sd)))
              refine XK.callG [0] u2 ok119 (hhp_one (by simp [hOf, upd, boolsC_ren])) (hbT ()) (fun d h' ⟨_, e⟩ => by subst e; simp) ?_ (fun _ => ⟨by kernel_rfl, _, _, ⟨rfl, rfl⟩, by simp⟩)
              rintro _ _ ⟨rfl, rfl⟩ _
              cases so <;> (iterate 4 ((try (refine drvZ Try.func75 ?_; simp (maxSteps := 9999999) only [go_sem, boolsC_ren])); (try ((with_reducible refine And.intro ?_ ?_) <;> (repeat' with_reducible apply And.intro) <;> try exact sd))))
              all_goals
                refine again (i + 1) some [] _ hlt (by omega) ?_
                rw [hFE]
                simp (maxSteps := 9999999) only [go_sem, TmOK, DM, DMs, CM, CMs, forall_eq, exists_eq_left, Mq, HpOK, LowOK, List.cons_append, List.nil_append]
                simp
                exact CMs.kf (boolsC_kf _)
          · have hc : yb = false ∧ ye = false := by cases yb <;> cases ye <;> simp_all
            obtain ⟨rfl, rfl⟩ := hc
            have hFE : F (i + 1) = (so, L2) := by rw [hs]; simp
            cases so <;> (iterate 6 ((try (refine drvZ Try.func75 ?_; simp (maxSteps := 9999999) only [go_sem, boolsC_ren])); (try ((with_reducible refine And.intro ?_ ?_) <;> (repeat' with_reducible apply And.intro) <;> try exact sd))))
            all_goals
              refine again (i + 1) some [] _ hlt (by omega) ?_
              rw [hFE]
              simp (maxSteps := 9999999) only [go_sem, TmOK, DM, DMs, CM, CMs, forall_eq, exists_eq_left, Mq, HpOK, LowOK, List.cons_append, List.nil_append]
              simp
              exact CMs.kf (boolsC_kf _)
      · have hn2 : ¬ i < l.length := by omega
        obtain rfl : i = l.length := by omega
        generalize F l.length = Fe at *
        refine drvL Try.func75 ?_
        simp (maxSteps := 9999999) only [go_sem, hn2]
        iterate 2 ((try (refine drvZ Try.func75 ?_; simp (maxSteps := 9999999) only [go_sem, hn2])); (try ((with_reducible refine And.intro ?_ ?_) <;> (repeat' with_reducible apply And.intro) <;> try exact sd)))
        refine RetOb.ofQ some [] (DB Fe.1) [some (boolsC Fe.2)] ?_ (by rw [← hR]; exact ⟨rfl, rfl⟩) (by simp)
        simp [enumL, DM, DMs, CM, HpOK, LowOK, hOf, upd]
        exact CMs.kf (boolsC_kf _)
    · simp (maxSteps := 9999999) only [go_sem, TmOK, DM, DMs, CM, CMs, forall_eq, exists_eq_left, Mq, HpOK, LowOK, hF0]
      simp
      exact CMs.kf (boolsC_kf _)
end Go.Proofs.Ytclgjiffpijgmaa.CtD

namespace Go.Proofs.Ytclgjiffpijgmaa.CtD
open Go Go.CT CtF CtR

def jnA (L M : List Bool) : Nat → Bool × List Bool
  | 0 => (false, L)
  | i + 1 => if M.getD i false && !(jnA L M i).2.getD i false then (true, (jnA L M i).2.set i true) else jnA L M i
theorem jnA_len (L M : List Bool) : ∀ i, (jnA L M i).2.length = L.length
  | 0 => rfl
  | i + 1 => by
    rw [jnA]
    split
    · simp [jnA_len L M i]
    · exact jnA_len L M i
theorem jnA_hi (L M : List Bool) : ∀ i j, i ≤ j → (jnA L M i).2.getD j false = L.getD j false
  | 0, j, _ => rfl
  | i + 1, j, h => by
    rw [jnA]
    split
    · rw [← jnA_hi L M i j (by omega)]
      simp only [List.getD_eq_getElem?_getD]
      rw [List.getElem?_set_ne (by omega)]
    · exact jnA_hi L M i j (by omega)
theorem jnA_iff (L M : List Bool) : ∀ i, (jnA L M i).1 = true ↔ ∃ j, j < i ∧ M.getD j false = true ∧ L.getD j false = false
  | 0 => by simp [jnA]
  | i + 1 => by
    have h := jnA_iff L M i
    have h2 := jnA_hi L M i i (Nat.le_refl _)
    rw [jnA, h2]
    cases hm : M.getD i false with
    | false =>
      simp only [Bool.false_and, Bool.false_eq_true, if_false]
      rw [h]
      constructor
      · rintro ⟨j, a, b, c⟩; exact ⟨j, by omega, b, c⟩
      · rintro ⟨j, a, b, c⟩
        refine ⟨j, ?_, b, c⟩
        rcases Nat.lt_or_eq_of_le (Nat.le_of_lt_succ a) with h | rfl
        · exact h
        · rw [hm] at b; cases b
    | true =>
      cases hl : L.getD i false with
      | true =>
        simp only [Bool.true_and, Bool.not_true, Bool.false_eq_true, if_false]
        rw [h]
        constructor
        · rintro ⟨j, a, b, c⟩; exact ⟨j, by omega, b, c⟩
        · rintro ⟨j, a, b, c⟩
          refine ⟨j, ?_, b, c⟩
          rcases Nat.lt_or_eq_of_le (Nat.le_of_lt_succ a) with h | rfl
          · exact h
          · rw [hl] at c; cases c
      | false =>
        simp only [Bool.true_and, Bool.not_false, if_true, true_iff]
        exact ⟨i, by omega, hm, hl⟩

theorem joinS (L M : List Bool) (hl : L.length ≤ 1000) (hM : M.length = L.length) :
    DC Try.prog 76 [.c (.msl 0 1 0 L.length), .c (.msl 1 1 0 L.length)] [some (boolsC L), some (boolsC M)] (fun r h => r = DB (jnA L M L.length).1 ∧ h = [some (boolsC (jnA L M L.length).2), some (boolsC M)]) := by
  have hmx := mx_eq
  have hfl := jnA_len L M
  generalize hR : (fun (r : D) (h : List (Option (List C))) => r = DB (jnA L M L.length).1 ∧ h = [some (boolsC (jnA L M L.length).2), some (boolsC M)]) = R
  refine dcZ Try.func76 ?_
  simp (maxSteps := 9999999) only [go_sem]
  ((try (refine drvZ Try.func76 ?_; simp (maxSteps := 9999999) only [go_sem])); (try ((with_reducible refine And.intro ?_ ?_) <;> (repeat' with_reducible apply And.intro) <;> try exact sd)))
  refine Go.loopQ (fun i : Nat => [(0, .c (.msl 0 1 0 L.length)), (1, .c (.msl 1 1 0 L.length)), (5, DB (jnA L M i).1), (6, DI .i64 i)])
    (fun i => [(0, some (boolsC (jnA L M i).2)), (1, some (boolsC M))]) 4096 (fun i => i ≤ L.length) (fun i => L.length - i) ?_ 0 some [] _ (Nat.zero_le _) ?_
  · intro i hi again
    have hFi := hfl i
    rcases Nat.lt_or_ge i L.length with hlt | hge
    · have a1 := @boolsC_at M i (by omega)
      have a2 := @boolsC_at (jnA L M i).2 i (by omega)
      have hs : jnA L M (i + 1) = if M.getD i false && !(jnA L M i).2.getD i false then (true, (jnA L M i).2.set i true) else jnA L M i := rfl
      have hbl := boolsC_len (jnA L M i).2
      rw [hFi] at hbl
      generalize jnA L M i = Fi at *
      obtain ⟨c, Li⟩ := Fi
      simp only at hFi hs a2 hbl
      cases hm : M.getD i false with
      | false =>
        rw [hm] at a1 hs
        simp only [Bool.false_and, Bool.false_eq_true, if_false] at hs
        refine drvL Try.func76 ?_
        simp (maxSteps := 9999999) only [go_sem, hlt, a1, a2]
        iterate 4 ((try (refine drvZ Try.func76 ?_; simp (maxSteps := 9999999) only [go_sem, hlt, a1, a2])); (try ((with_reducible refine And.intro ?_ ?_) <;> (repeat' with_reducible apply And.intro) <;> try exact sd)))
        refine again (i + 1) some [] _ hlt (by omega) ?_
        rw [hs]
        simp (maxSteps := 9999999) only [go_sem, TmOK, DM, DMs, CM, CMs, forall_eq, exists_eq_left, Mq, HpOK, LowOK]
        simp
        exact ⟨CMs.kf (boolsC_kf _), CMs.kf (boolsC_kf _)⟩
      | true =>
        rw [hm] at a1 hs
        cases hq : Li.getD i false with
        | true =>
          rw [hq] at a2 hs
          simp only [Bool.true_and, Bool.not_true, Bool.false_eq_true, if_false] at hs
          refine drvL Try.func76 ?_
          simp (maxSteps := 9999999) only [go_sem, hlt, a1, a2]
          iterate 4 ((try (refine drvZ Try.func76 ?_; simp (maxSteps := 9999999) only [go_sem, hlt, a1, a2])); (try ((with_reducible refine And.intro ?_ ?_) <;> (repeat' with_reducible apply And.intro) <;> try exact sd)))
          refine again (i + 1) some [] _ hlt (by omega) ?_
          rw [hs]
          simp (maxSteps := 9999999) only [go_sem, TmOK, DM, DMs, CM, CMs, forall_eq, exists_eq_left, Mq, HpOK, LowOK]
          simp
          exact ⟨CMs.kf (boolsC_kf _), CMs.kf (boolsC_kf _)⟩
        | false =>
          rw [hq] at a2 hs
          simp only [Bool.true_and, Bool.not_false, if_true] at hs
          refine drvL Try.func76 ?_
          simp (maxSteps := 9999999) only [go_sem, hlt, a1, a2]
          iterate 5 ((try (refine drvZ Try.func76 ?_; simp (maxSteps := 9999999) only [go_sem, hlt, a1, a2, boolsC_set, hbl])); (try ((with_reducible refine And.intro ?_ ?_) <;> (repeat' with_reducible apply And.intro) <;> try exact sd)))
          refine again (i + 1) some [] _ hlt (by omega) ?_
          rw [hs]
          simp (maxSteps := 9999999) only [go_sem, TmOK, DM, DMs, CM, CMs, forall_eq, exists_eq_left, Mq, HpOK, LowOK]
          simp
          exact ⟨CMs.kf (boolsC_kf _), CMs.kf (boolsC_kf _)⟩
    · have hn2 : ¬ i < L.length := by omega
      obtain rfl : i = L.length := by omega
      refine drvL Try.func76 ?_
      simp (maxSteps := 9999999) only [go_sem, hn2]
      iterate 2 ((try (refine drvZ Try.func76 ?_; simp (maxSteps := 9999999) only [go_sem, hn2])); (try ((with_reducible refine And.intro ?_ ?_) <;> (repeat' with_reducible apply And.intro) <;> try exact sd)))
      refine RetOb.ofQ some [] (DB (jnA L M L.length).1) [some (boolsC (jnA L M L.length).2), some (boolsC M)] ?_ (by rw [← hR]; exact ⟨rfl, rfl⟩) (by simp)
      simp [enumL, DM, DMs, CM, HpOK, LowOK, hOf, upd]
      exact ⟨CMs.kf (boolsC_kf _), CMs.kf (boolsC_kf _)⟩
  · simp (maxSteps := 9999999) only [go_sem, TmOK, DM, DMs, CM, CMs, forall_eq, exists_eq_left, Mq, HpOK, LowOK, jnA]
    simp
    exact ⟨CMs.kf (boolsC_kf _), CMs.kf (boolsC_kf _)⟩
end Go.Proofs.Ytclgjiffpijgmaa.CtD

namespace Go.Proofs.Ytclgjiffpijgmaa.CtD
open Go Go.CT CtF CtR

theorem SmE_shape {p : Pg} : ∀ (d : Nat) (e : Ex), CtR.shape p d e = true → SmE e
  | 0, e, h => by simp [CtR.shape] at h
  | d + 1, .mk k v ks, h => by
    obtain ⟨g1, g2, g3⟩ := shape_succ h
    exact .mk k v ks (fits_len g1).1 fun x hx => SmE_shape d x (g2 x hx)
theorem SmE_of {p : Pg} {e : Ex} (h : CtR.shape p 5 e = true ∨ e = .mk 0 0 []) : SmE e := by
  rcases h with h | rfl
  · exact SmE_shape 5 e h
  · exact .mk 0 0 [] (by simp) (fun x h => by simp at h)
theorem head_leaf {p : Pg} {k t : Int} {ix v : Ex} {c : Int} {b e : List St1} (h : headOK p k t ix v c b.length e.length = true) (hk : k = 5 ∨ k = 1 ∨ k = 2) : b = [] ∧ e = [] := by
  have g : b.length = 0 ∧ e.length = 0 := by
    unfold headOK parts blk at h
    rcases hk with rfl | rfl | rfl <;> simp at h <;> grind
  exact ⟨List.eq_nil_of_length_eq_zero g.1, List.eq_nil_of_length_eq_zero g.2⟩
theorem head_blk {p : Pg} {k t : Int} {ix v : Ex} {c : Int} {bn en : Nat} (h : headOK p k t ix v c bn en = true) (h5 : k ≠ 5) (h1 : k ≠ 1) (h2 : k ≠ 2) : t = 0 := by
  have hk := head_kind h
  have : k = 3 ∨ k = 4 := by omega
  unfold headOK parts blk at h
  rcases this with rfl | rfl <;> simp at h <;> grind
theorem cutL_nil (q : Nat → Bool) (nv d : Nat) : cutL q nv d [] = [] := by cases d <;> simp [cutL]
theorem bools_at {L : List Bool} {i : Nat} (h : i < L.length) : L[i]? = some (L.getD i false) := by
  rw [List.getD_eq_getElem?_getD, List.getElem?_eq_getElem h]; rfl

theorem cutSp (p : Pg) (hn : p.vars.length + p.arrays.length ≤ 14) (hv : 1 ≤ p.vars.length) (L : List Bool) (hL : L.length = p.vars.length + p.arrays.length) : ∀ (d : Nat) (l : List St1), (∀ s ∈ l, stmtOK p d s = true) → lsize d l ≤ 1000 →
    DC Try.prog 77 [.agg p.cells, .c (.isl 11 (St1.cellsL l)), .c (boolsD L)] [] (fun r h => r = .c (.isl 11 (St1.cellsL (cutL (fun i => L.getD i false) p.vars.length d l))) ∧ h = []) := by
  have hmx := mx_eq
  intro d
  induction d with
  | zero =>
    intro l hok hsz
    have hnil : l = [] := by
      cases l with
      | nil => rfl
      | cons a r => have := hok a (by simp); simp [stmtOK] at this
    subst hnil
    obtain ⟨vs, ar, bd⟩ := p
    refine dcZ Try.func77 ?_
    simp (maxSteps := 9999999) only [go_sem, St1.cellsL, Int.natCast_zero]
    iterate 2 ((try (refine drvZ Try.func77 ?_; simp (maxSteps := 9999999) only [go_sem, St1.cellsL, Int.natCast_zero])); (try ((with_reducible refine And.intro ?_ ?_) <;> (repeat' with_reducible apply And.intro) <;> try exact sd)))
    refine Go.loop ?_
    have hz : ((0 : Int) < 0) = False := eq_false (by omega)
    refine drvL Try.func77 ?_
    simp (maxSteps := 9999999) only [go_sem, St1.cellsL, Int.natCast_zero, hz]
    iterate 2 ((try (refine drvZ Try.func77 ?_; simp (maxSteps := 9999999) only [go_sem, St1.cellsL, Int.natCast_zero, hz])); (try ((with_reducible refine And.intro ?_ ?_) <;> (repeat' with_reducible apply And.intro) <;> try exact sd)))
    refine RetOb.ofQ (fun j => none) [128] (.c (.isl 11 [])) [] ?_ ⟨by simp [cutL, St1.cellsL], rfl⟩ (by simp)
    simp [enumL, hOf, DM, DMs, CM, HpOK, LowOK, upd]
  | succ d ih =>
    intro l hok hsz
    have hsub := lsize_subs d l
    obtain ⟨q, hq⟩ : ∃ q : Nat → Bool, q = fun i => L.getD i false := ⟨_, rfl⟩
    have hqe : ∀ i, L.getD i false = q i := fun i => by rw [hq]
    rw [← hq] at ih ⊢
    have hcl : ∀ {i : Nat} {s : St1}, l[i]? = some s → cutL q p.vars.length (d + 1) (l.take (i + 1)) = cutL q p.vars.length (d + 1) (l.take i) ++ (cutS q p.vars.length (cutL q p.vars.length d) s).toList := fun {i s} h => by
      simp only [cutL]; rw [List.take_add_one, h, List.filterMap_append]
      cases h2 : cutS q p.vars.length (cutL q p.vars.length d) s <;> simp [List.filterMap_cons, h2]
    have hcll : ∀ i, (cutL q p.vars.length (d + 1) (l.take i)).length ≤ i := fun i => by
      simp only [cutL]; exact Nat.le_trans (List.length_filterMap_le _ _) (by simp; omega)
    have hcn := cutL_nil q p.vars.length d
    obtain ⟨vs, ar, bd⟩ := p
    have hn : vs.length + ar.length ≤ 14 := hn
    have hv : 1 ≤ vs.length := hv
    have hL : L.length = vs.length + ar.length := hL
    simp only at hcl hcll hcn ih
    generalize hR : (fun (r : D) (h : List (Option (List C))) => r = .c (.isl 11 (St1.cellsL (cutL q vs.length (d + 1) l))) ∧ h = []) = R
    have hbD : boolsD L = .isl 1 (L.map fun b => [BC b]) := rfl
    rw [hbD] at ih ⊢
    refine dcZ Try.func77 ?_
    simp (maxSteps := 9999999) only [go_sem]
    iterate 2 ((try (refine drvZ Try.func77 ?_; simp (maxSteps := 9999999) only [go_sem])); (try ((with_reducible refine And.intro ?_ ?_) <;> (repeat' with_reducible apply And.intro) <;> try exact sd)))
    refine Go.loopQ (fun i : Nat => [(1, .c (.isl 11 (St1.cellsL l))), (2, .c (.isl 1 (L.map fun b => [BC b]))), (3, .c (.ptr 0 0)), (7, .c (.msl 67 11 0 (cutL q vs.length (d + 1) (l.take i)).length)), (8, DI .i64 i)])
      (fun i => [(0, some (Pg.cells ⟨vs, ar, bd⟩)), (67, some (stC (cutL q vs.length (d + 1) (l.take i))))])
      4096 (fun i => i ≤ l.length) (fun i => l.length - i) ?_ 0 (fun j => if j = 67 then some 128 else some j) [] _ (Nat.zero_le _) ?_
    · intro i hi again
      have hli := hcll i
      rcases Nat.lt_or_ge i l.length with hlt | hge
      · obtain ⟨⟨k, t, ⟨ik, iv, iks⟩, ⟨vk, vv, vks⟩, c, b, e⟩, hx⟩ : ∃ x, l[i]? = some x := ⟨l[i], by simp [hlt]⟩
        have hsok := hok _ (List.mem_of_getElem? hx)
        have hex := exprs_of hsok
        have hbe := stmtOK_succ hsok
        have hhk := head_kind hbe.1
        have hlf := head_leaf hbe.1
        simp only at hhk
        have a1 := tsum_succ (subs d) l i _ hx
        have a2 := tsum_le (subs d) l (i + 1)
        simp only [subs, St1.body, St1.els] at a1 a2
        have ihb := ih b hbe.2.1 (by omega)
        have ihe := ih e hbe.2.2 (by omega)
        have hci := hcl hx
        have hel := stC_len (cutL q vs.length (d + 1) (l.take i))
        generalize hCi : cutL q vs.length (d + 1) (l.take i) = Ci at *
        have key : k = 5 ∨ k = 1 ∨ k = 2 ∨ (k ≠ 5 ∧ k ≠ 1 ∧ k ≠ 2) := by omega
        rcases key with hk | hk | hk | ⟨hk5, hk1, hk2⟩
        · subst hk
          obtain ⟨rfl, rfl⟩ := hlf (by simp)
          rw [hcn] at ihb ihe
          have hat := @bools_at L t.toNat (by omega)
          have hcut : cutS q vs.length (cutL q vs.length d) (.mk 5 t (.mk ik iv iks) (.mk vk vv vks) c [] []) = some (.mk 5 t (.mk ik iv iks) (.mk vk vv vks) c [] []) := by simp [cutS]
          rw [hcut, Option.toList_some] at hci
          refine drvL Try.func77 ?_
          simp (maxSteps := 9999999) only [go_sem, hx, hlt]
          iterate 2 ((try (refine drvZ Try.func77 ?_; simp (maxSteps := 9999999) only [go_sem, hx, hlt])); (try ((with_reducible refine And.intro ?_ ?_) <;> (repeat' with_reducible apply And.intro) <;> try exact sd)))
          refine XK.plain (l2CopyExpr _ (SmE_of hex.1)) ok120 ?_ (hbT ())
          iterate 2 ((try (refine drvZ Try.func77 ?_; simp (maxSteps := 9999999) only [go_sem, hx, hlt])); (try ((with_reducible refine And.intro ?_ ?_) <;> (repeat' with_reducible apply And.intro) <;> try exact sd)))
          refine XK.plain (l2CopyExpr _ (SmE_of hex.2)) ok120 ?_ (hbT ())
          iterate 2 ((try (refine drvZ Try.func77 ?_; simp (maxSteps := 9999999) only [go_sem, hx, hlt])); (try ((with_reducible refine And.intro ?_ ?_) <;> (repeat' with_reducible apply And.intro) <;> try exact sd)))
          refine XK.plain ihb ok77 ?_ (hbT ()) (fun _ => by kernel_rfl)
          iterate 2 ((try (refine drvZ Try.func77 ?_; simp (maxSteps := 9999999) only [go_sem, hx, hlt])); (try ((with_reducible refine And.intro ?_ ?_) <;> (repeat' with_reducible apply And.intro) <;> try exact sd)))
          refine XK.plain ihe ok77 ?_ (hbT ()) (fun _ => by kernel_rfl)
          iterate 9 ((try (refine drvZ Try.func77 ?_; simp (maxSteps := 9999999) only [go_sem, St1.cellsL, Int.natCast_zero, Int.reduceLT, Int.lt_irrefl, hx, hlt, hel, hat])); (try ((with_reducible refine And.intro ?_ ?_) <;> (repeat' with_reducible apply And.intro) <;> try exact sd)))
          refine again (i + 1) (fun j => if j = 67 then some 8896 else some j) [] _ hlt (by omega) ?_
          simp (maxSteps := 9999999) only [go_sem, TmOK, DM, DMs, CM, CMs, forall_eq, exists_eq_left, Mq, HpOK, LowOK, List.cons_append, List.nil_append, hci, stC_snoc, List.length_append]
          simp
          exact CMs.kf (kf_app (stC_kf _) (by simp [kf]))
        · subst hk
          obtain ⟨rfl, rfl⟩ := hlf (by simp)
          rw [hcn] at ihb ihe
          have ht : 0 ≤ t ∧ t < (vs.length : Int) := by omega
          have hpos : ((vs.length : Int) + t).toNat = vs.length + t.toNat := by omega
          have hat := @bools_at L t.toNat (by omega)
          have hat2 := @bools_at L t.toNat (by omega)
          rw [hqe] at hat
          cases hqq : q t.toNat with
          | true =>
            rw [hqq] at hat
            have hcut : cutS q vs.length (cutL q vs.length d) (.mk 1 t (.mk ik iv iks) (.mk vk vv vks) c [] []) = some (.mk 1 t (.mk ik iv iks) (.mk vk vv vks) c [] []) := by simp [cutS, hqq]
            rw [hcut, Option.toList_some] at hci
            refine drvL Try.func77 ?_
            simp (maxSteps := 9999999) only [go_sem, hx, hlt]
            iterate 2 ((try (refine drvZ Try.func77 ?_; simp (maxSteps := 9999999) only [go_sem, hx, hlt])); (try ((with_reducible refine And.intro ?_ ?_) <;> (repeat' with_reducible apply And.intro) <;> try exact sd)))
            refine XK.plain (l2CopyExpr _ (SmE_of hex.1)) ok120 ?_ (hbT ())
            iterate 2 ((try (refine drvZ Try.func77 ?_; simp (maxSteps := 9999999) only [go_sem, hx, hlt])); (try ((with_reducible refine And.intro ?_ ?_) <;> (repeat' with_reducible apply And.intro) <;> try exact sd)))
            refine XK.plain (l2CopyExpr _ (SmE_of hex.2)) ok120 ?_ (hbT ())
            iterate 2 ((try (refine drvZ Try.func77 ?_; simp (maxSteps := 9999999) only [go_sem, hx, hlt])); (try ((with_reducible refine And.intro ?_ ?_) <;> (repeat' with_reducible apply And.intro) <;> try exact sd)))
            refine XK.plain ihb ok77 ?_ (hbT ()) (fun _ => by kernel_rfl)
            iterate 2 ((try (refine drvZ Try.func77 ?_; simp (maxSteps := 9999999) only [go_sem, hx, hlt])); (try ((with_reducible refine And.intro ?_ ?_) <;> (repeat' with_reducible apply And.intro) <;> try exact sd)))
            refine XK.plain ihe ok77 ?_ (hbT ()) (fun _ => by kernel_rfl)
            iterate 9 ((try (refine drvZ Try.func77 ?_; simp (maxSteps := 9999999) only [go_sem, St1.cellsL, Int.natCast_zero, Int.reduceLT, Int.lt_irrefl, hx, hlt, hel, hat, hpos, hat2])); (try ((with_reducible refine And.intro ?_ ?_) <;> (repeat' with_reducible apply And.intro) <;> try exact sd)))
            refine again (i + 1) (fun j => if j = 67 then some 8896 else some j) [] _ hlt (by omega) ?_
            simp (maxSteps := 9999999) only [go_sem, TmOK, DM, DMs, CM, CMs, forall_eq, exists_eq_left, Mq, HpOK, LowOK, List.cons_append, List.nil_append, hci, stC_snoc, List.length_append]
            simp
            exact CMs.kf (kf_app (stC_kf _) (by simp [kf]))
          | false =>
            rw [hqq] at hat
            have hcut : cutS q vs.length (cutL q vs.length d) (.mk 1 t (.mk ik iv iks) (.mk vk vv vks) c [] []) = none := by simp [cutS, hqq]
            rw [hcut, Option.toList_none, List.append_nil] at hci
            refine drvL Try.func77 ?_
            simp (maxSteps := 9999999) only [go_sem, hx, hlt]
            iterate 2 ((try (refine drvZ Try.func77 ?_; simp (maxSteps := 9999999) only [go_sem, hx, hlt])); (try ((with_reducible refine And.intro ?_ ?_) <;> (repeat' with_reducible apply And.intro) <;> try exact sd)))
            refine XK.plain (l2CopyExpr _ (SmE_of hex.1)) ok120 ?_ (hbT ())
            iterate 2 ((try (refine drvZ Try.func77 ?_; simp (maxSteps := 9999999) only [go_sem, hx, hlt])); (try ((with_reducible refine And.intro ?_ ?_) <;> (repeat' with_reducible apply And.intro) <;> try exact sd)))
            refine XK.plain (l2CopyExpr _ (SmE_of hex.2)) ok120 ?_ (hbT ())
            iterate 2 ((try (refine drvZ Try.func77 ?_; simp (maxSteps := 9999999) only [go_sem, hx, hlt])); (try ((with_reducible refine And.intro ?_ ?_) <;> (repeat' with_reducible apply And.intro) <;> try exact sd)))
            refine XK.plain ihb ok77 ?_ (hbT ()) (fun _ => by kernel_rfl)
            iterate 2 ((try (refine drvZ Try.func77 ?_; simp (maxSteps := 9999999) only [go_sem, hx, hlt])); (try ((with_reducible refine And.intro ?_ ?_) <;> (repeat' with_reducible apply And.intro) <;> try exact sd)))
            refine XK.plain ihe ok77 ?_ (hbT ()) (fun _ => by kernel_rfl)
            iterate 9 ((try (refine drvZ Try.func77 ?_; simp (maxSteps := 9999999) only [go_sem, St1.cellsL, Int.natCast_zero, Int.reduceLT, Int.lt_irrefl, hx, hlt, hel, hat, hpos, hat2])); (try ((with_reducible refine And.intro ?_ ?_) <;> (repeat' with_reducible apply And.intro) <;> try exact sd)))
            refine again (i + 1) some [] _ hlt (by omega) ?_
            simp (maxSteps := 9999999) only [go_sem, TmOK, DM, DMs, CM, CMs, forall_eq, exists_eq_left, Mq, HpOK, LowOK, List.cons_append, List.nil_append, hci]
            simp
            exact CMs.kf (stC_kf _)
        · subst hk
          obtain ⟨rfl, rfl⟩ := hlf (by simp)
          rw [hcn] at ihb ihe
          have ht : 0 ≤ t ∧ t < (ar.length : Int) := by omega
          have hpos : ((vs.length : Int) + t).toNat = vs.length + t.toNat := by omega
          have hat := @bools_at L (vs.length + t.toNat) (by omega)
          have hat2 := @bools_at L t.toNat (by omega)
          rw [hqe] at hat
          cases hqq : q (vs.length + t.toNat) with
          | true =>
            rw [hqq] at hat
            have hcut : cutS q vs.length (cutL q vs.length d) (.mk 2 t (.mk ik iv iks) (.mk vk vv vks) c [] []) = some (.mk 2 t (.mk ik iv iks) (.mk vk vv vks) c [] []) := by simp [cutS, hqq]
            rw [hcut, Option.toList_some] at hci
            refine drvL Try.func77 ?_
            simp (maxSteps := 9999999) only [go_sem, hx, hlt]
            iterate 2 ((try (refine drvZ Try.func77 ?_; simp (maxSteps := 9999999) only [go_sem, hx, hlt])); (try ((with_reducible refine And.intro ?_ ?_) <;> (repeat' with_reducible apply And.intro) <;> try exact sd)))
            refine XK.plain (l2CopyExpr _ (SmE_of hex.1)) ok120 ?_ (hbT ())
            iterate 2 ((try (refine drvZ Try.func77 ?_; simp (maxSteps := 9999999) only [go_sem, hx, hlt])); (try ((with_reducible refine And.intro ?_ ?_) <;> (repeat' with_reducible apply And.intro) <;> try exact sd)))
            refine XK.plain (l2CopyExpr _ (SmE_of hex.2)) ok120 ?_ (hbT ())
            iterate 2 ((try (refine drvZ Try.func77 ?_; simp (maxSteps := 9999999) only [go_sem, hx, hlt])); (try ((with_reducible refine And.intro ?_ ?_) <;> (repeat' with_reducible apply And.intro) <;> try exact sd)))
            refine XK.plain ihb ok77 ?_ (hbT ()) (fun _ => by kernel_rfl)
            iterate 2 ((try (refine drvZ Try.func77 ?_; simp (maxSteps := 9999999) only [go_sem, hx, hlt])); (try ((with_reducible refine And.intro ?_ ?_) <;> (repeat' with_reducible apply And.intro) <;> try exact sd)))
            refine XK.plain ihe ok77 ?_ (hbT ()) (fun _ => by kernel_rfl)
            iterate 9 ((try (refine drvZ Try.func77 ?_; simp (maxSteps := 9999999) only [go_sem, St1.cellsL, Int.natCast_zero, Int.reduceLT, Int.lt_irrefl, hx, hlt, hel, hat, hpos, hat2])); (try ((with_reducible refine And.intro ?_ ?_) <;> (repeat' with_reducible apply And.intro) <;> try exact sd)))
            refine again (i + 1) (fun j => if j = 67 then some 9536 else some j) [] _ hlt (by omega) ?_
            simp (maxSteps := 9999999) only [go_sem, TmOK, DM, DMs, CM, CMs, forall_eq, exists_eq_left, Mq, HpOK, LowOK, List.cons_append, List.nil_append, hci, stC_snoc, List.length_append]
            simp
            exact CMs.kf (kf_app (stC_kf _) (by simp [kf]))
          | false =>
            rw [hqq] at hat
            have hcut : cutS q vs.length (cutL q vs.length d) (.mk 2 t (.mk ik iv iks) (.mk vk vv vks) c [] []) = none := by simp [cutS, hqq]
            rw [hcut, Option.toList_none, List.append_nil] at hci
            refine drvL Try.func77 ?_
            simp (maxSteps := 9999999) only [go_sem, hx, hlt]
            iterate 2 ((try (refine drvZ Try.func77 ?_; simp (maxSteps := 9999999) only [go_sem, hx, hlt])); (try ((with_reducible refine And.intro ?_ ?_) <;> (repeat' with_reducible apply And.intro) <;> try exact sd)))
            refine XK.plain (l2CopyExpr _ (SmE_of hex.1)) ok120 ?_ (hbT ())
            iterate 2 ((try (refine drvZ Try.func77 ?_; simp (maxSteps := 9999999) only [go_sem, hx, hlt])); (try ((with_reducible refine And.intro ?_ ?_) <;> (repeat' with_reducible apply And.intro) <;> try exact sd)))
            refine XK.plain (l2CopyExpr _ (SmE_of hex.2)) ok120 ?_ (hbT ())
            iterate 2 ((try (refine drvZ Try.func77 ?_; simp (maxSteps := 9999999) only [go_sem, hx, hlt])); (try ((with_reducible refine And.intro ?_ ?_) <;> (repeat' with_reducible apply And.intro) <;> try exact sd)))
            refine XK.plain ihb ok77 ?_ (hbT ()) (fun _ => by kernel_rfl)
            iterate 2 ((try (refine drvZ Try.func77 ?_; simp (maxSteps := 9999999) only [go_sem, hx, hlt])); (try ((with_reducible refine And.intro ?_ ?_) <;> (repeat' with_reducible apply And.intro) <;> try exact sd)))
            refine XK.plain ihe ok77 ?_ (hbT ()) (fun _ => by kernel_rfl)
            iterate 9 ((try (refine drvZ Try.func77 ?_; simp (maxSteps := 9999999) only [go_sem, St1.cellsL, Int.natCast_zero, Int.reduceLT, Int.lt_irrefl, hx, hlt, hel, hat, hpos, hat2])); (try ((with_reducible refine And.intro ?_ ?_) <;> (repeat' with_reducible apply And.intro) <;> try exact sd)))
            refine again (i + 1) some [] _ hlt (by omega) ?_
            simp (maxSteps := 9999999) only [go_sem, TmOK, DM, DMs, CM, CMs, forall_eq, exists_eq_left, Mq, HpOK, LowOK, List.cons_append, List.nil_append, hci]
            simp
            exact CMs.kf (stC_kf _)
        · have e5 : (k == 5) = false := by simp [hk5]
          have e1 : (k == 1) = false := by simp [hk1]
          have e2 : (k == 2) = false := by simp [hk2]
          have hcS : cutS q vs.length (cutL q vs.length d) (.mk k t (.mk ik iv iks) (.mk vk vv vks) c b e) = if 0 < (cutL q vs.length d b).length + (cutL q vs.length d e).length then some (.mk k t (.mk ik iv iks) (.mk vk vv vks) c (cutL q vs.length d b) (cutL q vs.length d e)) else none := by simp [cutS, hk5, hk1, hk2]
          generalize cutL q vs.length d b = cb at *
          generalize cutL q vs.length d e = ce at *
          have ht0 := head_blk hbe.1 hk5 hk1 hk2
          have hat := @bools_at L t.toNat (by omega)
          by_cases hb0 : 0 < cb.length
          · have hp1 : ((0 : Int) < (cb.length : Int)) = True := eq_true (by omega)
            rw [if_pos (by omega)] at hcS
            rw [hcS, Option.toList_some] at hci
            refine drvL Try.func77 ?_
            simp (maxSteps := 9999999) only [go_sem, hx, hlt]
            iterate 2 ((try (refine drvZ Try.func77 ?_; simp (maxSteps := 9999999) only [go_sem, hx, hlt])); (try ((with_reducible refine And.intro ?_ ?_) <;> (repeat' with_reducible apply And.intro) <;> try exact sd)))
            refine XK.plain (l2CopyExpr _ (SmE_of hex.1)) ok120 ?_ (hbT ())
            iterate 2 ((try (refine drvZ Try.func77 ?_; simp (maxSteps := 9999999) only [go_sem, hx, hlt])); (try ((with_reducible refine And.intro ?_ ?_) <;> (repeat' with_reducible apply And.intro) <;> try exact sd)))
            refine XK.plain (l2CopyExpr _ (SmE_of hex.2)) ok120 ?_ (hbT ())
            iterate 2 ((try (refine drvZ Try.func77 ?_; simp (maxSteps := 9999999) only [go_sem, hx, hlt])); (try ((with_reducible refine And.intro ?_ ?_) <;> (repeat' with_reducible apply And.intro) <;> try exact sd)))
            refine XK.plain ihb ok77 ?_ (hbT ()) (fun _ => by kernel_rfl)
            iterate 2 ((try (refine drvZ Try.func77 ?_; simp (maxSteps := 9999999) only [go_sem, hx, hlt])); (try ((with_reducible refine And.intro ?_ ?_) <;> (repeat' with_reducible apply And.intro) <;> try exact sd)))
            refine XK.plain ihe ok77 ?_ (hbT ()) (fun _ => by kernel_rfl)
            iterate 9 ((try (refine drvZ Try.func77 ?_; simp (maxSteps := 9999999) only [go_sem, e5, e1, e2, hk5, hk1, hk2, hat, hx, hlt, hel, hp1])); (try ((with_reducible refine And.intro ?_ ?_) <;> (repeat' with_reducible apply And.intro) <;> try exact sd)))
            refine again (i + 1) (fun j => if j = 67 then some 8896 else some j) [] _ hlt (by omega) ?_
            simp (maxSteps := 9999999) only [go_sem, TmOK, DM, DMs, CM, CMs, forall_eq, exists_eq_left, Mq, HpOK, LowOK, List.cons_append, List.nil_append, hci, stC_snoc, List.length_append]
            simp
            exact CMs.kf (kf_app (stC_kf _) (by simp [kf]))
          · have hp1 : ((0 : Int) < (cb.length : Int)) = False := eq_false (by omega)
            by_cases he0 : 0 < ce.length
            · have hp2 : ((0 : Int) < (ce.length : Int)) = True := eq_true (by omega)
              rw [if_pos (by omega)] at hcS
              rw [hcS, Option.toList_some] at hci
              refine drvL Try.func77 ?_
              simp (maxSteps := 9999999) only [go_sem, hx, hlt]
              iterate 2 ((try (refine drvZ Try.func77 ?_; simp (maxSteps := 9999999) only [go_sem, hx, hlt])); (try ((with_reducible refine And.intro ?_ ?_) <;> (repeat' with_reducible apply And.intro) <;> try exact sd)))
              refine XK.plain (l2CopyExpr _ (SmE_of hex.1)) ok120 ?_ (hbT ())
              iterate 2 ((try (refine drvZ Try.func77 ?_; simp (maxSteps := 9999999) only [go_sem, hx, hlt])); (try ((with_reducible refine And.intro ?_ ?_) <;> (repeat' with_reducible apply And.intro) <;> try exact sd)))
              refine XK.plain (l2CopyExpr _ (SmE_of hex.2)) ok120 ?_ (hbT ())
              iterate 2 ((try (refine drvZ Try.func77 ?_; simp (maxSteps := 9999999) only [go_sem, hx, hlt])); (try ((with_reducible refine And.intro ?_ ?_) <;> (repeat' with_reducible apply And.intro) <;> try exact sd)))
              refine XK.plain ihb ok77 ?_ (hbT ()) (fun _ => by kernel_rfl)
              iterate 2 ((try (refine drvZ Try.func77 ?_; simp (maxSteps := 9999999) only [go_sem, hx, hlt])); (try ((with_reducible refine And.intro ?_ ?_) <;> (repeat' with_reducible apply And.intro) <;> try exact sd)))
              refine XK.plain ihe ok77 ?_ (hbT ()) (fun _ => by kernel_rfl)
              iterate 9 ((try (refine drvZ Try.func77 ?_; simp (maxSteps := 9999999) only [go_sem, e5, e1, e2, hk5, hk1, hk2, hat, hx, hlt, hel, hp1, hp2])); (try ((with_reducible refine And.intro ?_ ?_) <;> (repeat' with_reducible apply And.intro) <;> try exact sd)))
              refine again (i + 1) (fun j => if j = 67 then some 8896 else some j) [] _ hlt (by omega) ?_
              simp (maxSteps := 9999999) only [go_sem, TmOK, DM, DMs, CM, CMs, forall_eq, exists_eq_left, Mq, HpOK, LowOK, List.cons_append, List.nil_append, hci, stC_snoc, List.length_append]
              simp
              exact CMs.kf (kf_app (stC_kf _) (by simp [kf]))
            · have hp2 : ((0 : Int) < (ce.length : Int)) = False := eq_false (by omega)
              rw [if_neg (by omega)] at hcS
              rw [hcS, Option.toList_none, List.append_nil] at hci
              refine drvL Try.func77 ?_
              simp (maxSteps := 9999999) only [go_sem, hx, hlt]
              iterate 2 ((try (refine drvZ Try.func77 ?_; simp (maxSteps := 9999999) only [go_sem, hx, hlt])); (try ((with_reducible refine And.intro ?_ ?_) <;> (repeat' with_reducible apply And.intro) <;> try exact sd)))
              refine XK.plain (l2CopyExpr _ (SmE_of hex.1)) ok120 ?_ (hbT ())
              iterate 2 ((try (refine drvZ Try.func77 ?_; simp (maxSteps := 9999999) only [go_sem, hx, hlt])); (try ((with_reducible refine And.intro ?_ ?_) <;> (repeat' with_reducible apply And.intro) <;> try exact sd)))
              refine XK.plain (l2CopyExpr _ (SmE_of hex.2)) ok120 ?_ (hbT ())
              iterate 2 ((try (refine drvZ Try.func77 ?_; simp (maxSteps := 9999999) only [go_sem, hx, hlt])); (try ((with_reducible refine And.intro ?_ ?_) <;> (repeat' with_reducible apply And.intro) <;> try exact sd)))
              refine XK.plain ihb ok77 ?_ (hbT ()) (fun _ => by kernel_rfl)
              iterate 2 ((try (refine drvZ Try.func77 ?_; simp (maxSteps := 9999999) only [go_sem, hx, hlt])); (try ((with_reducible refine And.intro ?_ ?_) <;> (repeat' with_reducible apply And.intro) <;> try exact sd)))
              refine XK.plain ihe ok77 ?_ (hbT ()) (fun _ => by kernel_rfl)
              iterate 9 ((try (refine drvZ Try.func77 ?_; simp (maxSteps := 9999999) only [go_sem, e5, e1, e2, hk5, hk1, hk2, hat, hx, hlt, hel, hp1, hp2])); (try ((with_reducible refine And.intro ?_ ?_) <;> (repeat' with_reducible apply And.intro) <;> try exact sd)))
              refine again (i + 1) some [] _ hlt (by omega) ?_
              simp (maxSteps := 9999999) only [go_sem, TmOK, DM, DMs, CM, CMs, forall_eq, exists_eq_left, Mq, HpOK, LowOK, List.cons_append, List.nil_append, hci]
              simp
              exact CMs.kf (stC_kf _)
      · have hn2 : ¬ i < l.length := by omega
        obtain rfl : i = l.length := by omega
        refine drvL Try.func77 ?_
        simp (maxSteps := 9999999) only [go_sem, hn2, List.take_length]
        iterate 2 ((try (refine drvZ Try.func77 ?_; simp (maxSteps := 9999999) only [go_sem, hn2, List.take_length])); (try ((with_reducible refine And.intro ?_ ?_) <;> (repeat' with_reducible apply And.intro) <;> try exact sd)))
        generalize hCi : cutL q vs.length (d + 1) l = Ci at *
        refine RetOb.ofQ (fun j => none) [67] (.c (.isl 11 (St1.cellsL Ci))) [] ?_ (by rw [← hR]; exact ⟨rfl, rfl⟩) (by simp)
        have g1 : (St1.cellsL Ci).flatten = stC Ci := by rw [St1.cellsL_eq]; rfl
        have g2 : ∀ x ∈ St1.cellsL Ci, x.length = 11 := fun x hx => by rw [St1.cellsL_eq] at hx; obtain ⟨e, _, rfl⟩ := List.mem_map.1 hx; exact St1.cells_len e
        have g3 : ∀ x ∈ St1.cellsL Ci, ∀ c ∈ x, kf c = true := fun x hx => by rw [St1.cellsL_eq] at hx; obtain ⟨e, _, rfl⟩ := List.mem_map.1 hx; exact st_kf e
        simp only [enumL, hOf, DM, DMs, CM, CMs, HpOK, LowOK, upd, St1.cellsL_length, g1]
        first | (simp; exact ⟨g2, g3⟩) | (simp [g2]; exact g3) | exact ⟨g2, g3⟩
    · simp (maxSteps := 9999999) only [go_sem, TmOK, DM, DMs, CM, CMs, forall_eq, exists_eq_left, Mq, HpOK, LowOK]
      simp [cutL, stC, CMs]
end Go.Proofs.Ytclgjiffpijgmaa.CtD

namespace Go.Proofs.Ytclgjiffpijgmaa.CtD
open Go Go.CT CtF CtR

/-! Plain: the reference's slice is the least closed set too. -/
def gL (L : List Bool) : Nat → Bool := fun i => L.getD i false
theorem gL_ext {L L' : List Bool} (h : L'.length = L.length) (h1 : leB (gL L) (gL L')) (h2 : leB (gL L') (gL L)) : L' = L := by
  apply List.ext_getElem h
  intro i a b
  have e1 := h1 i
  have e2 := h2 i
  simp only [gL, List.getD_eq_getElem?_getD, List.getElem?_eq_getElem a, List.getElem?_eq_getElem b, Option.getD_some] at e1 e2
  cases hx : L'[i] <;> cases hy : L[i] <;> simp_all
theorem gL_set {L : List Bool} {j : Nat} (h : j < L.length) (i : Nat) : gL (L.set j true) i = true ↔ gL L i = true ∨ (2 ^ j).testBit i = true := by
  simp only [gL, List.getD_eq_getElem?_getD, Nat.testBit_two_pow, decide_eq_true_eq]
  by_cases hij : j = i
  · subst hij; simp [List.getElem?_set_self h]
  · rw [List.getElem?_set_ne hij]; simp [hij]
theorem usesL_mem {p : Pg} (i : Nat) : ∀ (d : Nat) (e : Ex) (L : List Bool), CtR.shape p d e = true → L.length = p.vars.length + p.arrays.length →
    (gL (usesL p.vars.length d e L) i = true ↔ gL L i = true ∨ (occN p.vars.length d e).testBit i = true)
  | 0, e, L, h, _ => by simp [CtR.shape] at h
  | d + 1, .mk k v ks, L, h, hL => by
    obtain ⟨g1, g2, g3⟩ := shape_succ h
    obtain ⟨hl3, hla, hv0, hv1⟩ := fits_len g1
    have hlim : k = 2 → v < p.vars.length := fun hk => by subst hk; simpa [limit] using hv1
    have hlim3 : k = 3 → v < p.arrays.length := fun hk => by subst hk; simpa [limit] using hv1
    have gen : ∀ (ks : List Ex), (∀ x ∈ ks, CtR.shape p d x = true) → ∀ (M : List Bool) (a : Nat), M.length = L.length → (gL M i = true ↔ gL L i = true ∨ a.testBit i = true) →
        (gL (ks.foldl (fun L x => usesL p.vars.length d x L) M) i = true ↔ gL L i = true ∨ ((ks.map (occN p.vars.length d)).foldl (fun a b => a ||| b) a).testBit i = true) := fun ks => by
      induction ks with
      | nil => intro _ M a _ h; exact h
      | cons x r ih =>
        intro hs M a hM h
        rw [List.foldl_cons, List.map_cons, List.foldl_cons]
        refine ih (fun y hy => hs y (by simp [hy])) _ _ (by rw [usesL_len, hM]) ?_
        rw [usesL_mem i d x M (hs x (by simp)) (by omega), h, Nat.testBit_or, Bool.or_eq_true, or_assoc]
    simp only [usesL, occN]
    refine gen ks g2 _ _ (by split <;> (try split) <;> simp) ?_
    unfold occB
    by_cases h2 : k = 2
    · have := hlim h2
      simp only [h2, if_true]
      exact gL_set (by omega) i
    · by_cases h3 : k = 3
      · have := hlim3 h3
        simp only [h2, h3, if_true, if_false]
        first | exact gL_set (by omega) i | (simp only [Int.reduceEq, if_false]; exact gL_set (by omega) i)
      · simp [h2, h3]
theorem usesE_mem {p : Pg} (i : Nat) {e : Ex} (h : CtR.shape p 5 e = true ∨ e = .mk 0 0 []) (L : List Bool) (hL : L.length = p.vars.length + p.arrays.length) :
    (gL (usesL p.vars.length 5 e L) i = true ↔ gL L i = true ∨ (occN p.vars.length 5 e).testBit i = true) := by
  rcases h with h | rfl
  · exact usesL_mem i 5 e L h hL
  · simp [usesL, occN, occB]

structure NS (L L' : List Bool) (K : Bool) (A : (Nat → Bool) → Nat) (K' : (Nat → Bool) → Bool) : Prop where
  len : L'.length = L.length
  s1 : leB (gL L) (gL L')
  s2 : ∀ q', leB (gL L) q' → subB (A q') q' → leB (gL L') q' ∧ (K = true → K' q' = true)
  s3 : leB (gL L') (gL L) → subB (A (gL L)) (gL L) ∧ (K' (gL L) = true → K = true)
theorem NS.nil (L : List Bool) : NS L L false (fun _ => 0) (fun _ => false) :=
  ⟨rfl, fun i h => h, fun q' h _ => ⟨h, fun h => by cases h⟩, fun _ => ⟨subB_zero _, fun h => by cases h⟩⟩
theorem NS.seq {L L1 L2 : List Bool} {K1 K2 : Bool} {A1 A2 : (Nat → Bool) → Nat} {B1 B2 : (Nat → Bool) → Bool} (h1 : NS L L1 K1 A1 B1) (h2 : NS L1 L2 K2 A2 B2) :
    NS L L2 (K1 || K2) (fun q => A1 q ||| A2 q) (fun q => B1 q || B2 q) := by
  refine ⟨by rw [h2.len, h1.len], fun i h => h2.s1 i (h1.s1 i h), fun q' hl hs => ?_, fun hl => ?_⟩
  · obtain ⟨sa, sb⟩ := subB_or.1 hs
    have a := h1.s2 q' hl sa
    have b := h2.s2 q' a.1 sb
    refine ⟨b.1, fun h => ?_⟩
    rw [Bool.or_eq_true] at h ⊢
    exact h.imp a.2 b.2
  · have e1 : L1 = L := gL_ext h1.len h1.s1 (fun i h => hl i (h2.s1 i h))
    subst e1
    have a := h1.s3 (fun i h => h)
    have b := h2.s3 hl
    refine ⟨subB_or.2 ⟨a.1, b.1⟩, fun h => ?_⟩
    rw [Bool.or_eq_true] at h ⊢
    exact h.imp a.2 b.2
theorem NS.keep {L L1 U : List Bool} {K : Bool} {A : (Nat → Bool) → Nat} {B : (Nat → Bool) → Bool} (o : Nat) (h : NS L L1 K A B) (hl : U.length = L1.length) (hU : ∀ i, gL U i = true ↔ gL L1 i = true ∨ o.testBit i = true) :
    NS L (if K then U else L1) K (fun q => if B q then A q ||| o else A q) B := by
  cases hK : K with
  | false =>
    rw [hK] at h
    refine ⟨h.len, h.s1, fun q' hle hs => ?_, fun hle => ?_⟩
    · have : subB (A q') q' := by
        split at hs
        · exact (subB_or.1 hs).1
        · exact hs
      exact h.s2 q' hle this
    · have a := h.s3 hle
      have hb : B (gL L) = false := by
        cases hB : B (gL L) with
        | false => rfl
        | true => exact absurd (a.2 hB) (by simp)
      refine ⟨?_, a.2⟩
      simp only [hb, Bool.false_eq_true, if_false]
      exact a.1
  | true =>
    rw [hK] at h
    refine ⟨by rw [if_pos rfl, hl, h.len], fun i hi => ?_, fun q' hle hs => ?_, fun hle => ?_⟩
    · rw [if_pos rfl]; exact (hU i).2 (.inl (h.s1 i hi))
    · have a : subB (A q') q' := by
        split at hs
        · exact (subB_or.1 hs).1
        · exact hs
      have b := h.s2 q' hle a
      refine ⟨fun i hi => ?_, b.2⟩
      rw [if_pos rfl] at hi
      have hb := b.2 rfl
      simp only [hb, if_true] at hs
      rcases (hU i).1 hi with h1 | h1
      · exact b.1 i h1
      · exact (subB_or.1 hs).2 i h1
    · rw [if_pos rfl] at hle
      have a := h.s3 (fun i hi => hle i ((hU i).2 (.inl hi)))
      refine ⟨?_, a.2⟩
      have ho : subB o (gL L) := fun i hi => hle i ((hU i).2 (.inr hi))
      split
      · exact subB_or.2 ⟨a.1, ho⟩
      · exact a.1
theorem addS_or (q : Nat → Bool) (nv : Nat) (f : List St1 → List St1) (g : List St1 → Nat) (a : Nat) (s : St1) : addS q nv f g a s = a ||| addS q nv f g 0 s := by
  obtain ⟨k, t, ix, v, c, b, e⟩ := s
  simp only [addS]
  split <;> split <;> simp [Nat.or_assoc]
theorem NS.fold (nv : Nat) (f : List St1 → List Bool → Bool × List Bool) (g : (Nat → Bool) → List St1 → List St1) (w : (Nat → Bool) → List St1 → Nat) (L0 : List Bool) : ∀ (l : List St1) (x : Bool × List Bool) (A : (Nat → Bool) → Nat) (B : (Nat → Bool) → Bool),
    (∀ s ∈ l, ∀ L : List Bool, L.length = L0.length → NS L (needS nv f L s).2 (needS nv f L s).1 (fun q => addS q nv (g q) (w q) 0 s) (fun q => (cutS q nv (g q) s).isSome)) → NS L0 x.2 x.1 A B →
    NS L0 (l.foldl (fun x s => (x.1 || (needS nv f x.2 s).1, (needS nv f x.2 s).2)) x).2 (l.foldl (fun x s => (x.1 || (needS nv f x.2 s).1, (needS nv f x.2 s).2)) x).1 (fun q => l.foldl (addS q nv (g q) (w q)) (A q)) (fun q => B q || l.any fun s => (cutS q nv (g q) s).isSome)
  | [], x, A, B, _, h => by simpa using h
  | s :: r, x, A, B, hs, h => by
    have h1 := h.seq (hs s (by simp) x.2 h.len)
    have h2 := NS.fold nv f g w L0 r (x.1 || (needS nv f x.2 s).1, (needS nv f x.2 s).2) _ _ (fun y hy => hs y (by simp [hy])) h1
    simp only [List.foldl_cons, List.any_cons]
    have e1 : (fun q => List.foldl (addS q nv (g q) (w q)) (addS q nv (g q) (w q) (A q) s) r) = (fun q => List.foldl (addS q nv (g q) (w q)) (A q ||| addS q nv (g q) (w q) 0 s) r) := funext fun q => by rw [addS_or]
    rw [e1]
    simp only [Bool.or_assoc] at h2 ⊢
    exact h2
theorem any_pos (f : St1 → Option St1) (l : List St1) : (l.any fun s => (f s).isSome) = decide (0 < (l.filterMap f).length) := by
  induction l with
  | nil => rfl
  | cons a r ih =>
    rw [List.any_cons, List.filterMap_cons, ih]
    cases h : f a <;> simp
theorem NS.need {p : Pg} : ∀ (d : Nat) (l : List St1) (L : List Bool), (∀ s ∈ l, stmtOK p d s = true) → L.length = p.vars.length + p.arrays.length →
    NS L (needL p.vars.length d l L).2 (needL p.vars.length d l L).1 (fun q => setN q p.vars.length d l) (fun q => decide (0 < (cutL q p.vars.length d l).length))
  | 0, l, L, h, _ => by
    have := NS.nil L
    simpa [needL, setN, cutL] using this
  | d + 1, l, L, h, hL => by
    have hone : ∀ s ∈ l, ∀ M : List Bool, M.length = L.length → NS M (needS p.vars.length (needL p.vars.length d) M s).2 (needS p.vars.length (needL p.vars.length d) M s).1 (fun q => addS q p.vars.length (cutL q p.vars.length d) (setN q p.vars.length d) 0 s) (fun q => (cutS q p.vars.length (cutL q p.vars.length d) s).isSome) := fun s hs M hM => by
      have hok := h s hs
      obtain ⟨k, t, ix, v, c, b, e⟩ := s
      have hbe := stmtOK_succ hok
      have hex := exprs_of hok
      have hb := NS.need d b M hbe.2.1 (by omega)
      have he := NS.need d e (needL p.vars.length d b M).2 hbe.2.2 (by rw [hb.len]; omega)
      have hU : ∀ M1 : List Bool, M1.length = L.length → ∀ i, gL (usesL p.vars.length 5 ix (usesL p.vars.length 5 v M1)) i = true ↔ gL M1 i = true ∨ (occN p.vars.length 5 v ||| occN p.vars.length 5 ix).testBit i = true := fun M1 hM1 i => by
        rw [usesE_mem i hex.1 _ (by rw [usesL_len]; omega), usesE_mem i hex.2 _ (by omega), Nat.testBit_or, Bool.or_eq_true, or_assoc]
      have hlen : ∀ M1 : List Bool, (usesL p.vars.length 5 ix (usesL p.vars.length 5 v M1)).length = M1.length := fun M1 => by rw [usesL_len, usesL_len]
      have h0 : ∀ q : Nat → Bool, 0 ||| (occN p.vars.length 5 v ||| occN p.vars.length 5 ix) = (occN p.vars.length 5 v ||| occN p.vars.length 5 ix) := fun q => Nat.zero_or _
      by_cases h5 : k = 5
      · have base : NS M M true (fun _ => 0) (fun _ => true) := ⟨rfl, fun i h => h, fun q' h _ => ⟨h, fun _ => rfl⟩, fun _ => ⟨subB_zero _, fun _ => rfl⟩⟩
        have := base.keep (U := usesL p.vars.length 5 ix (usesL p.vars.length 5 v M)) _ (hlen M) (hU M hM)
        simpa [needS, addS, cutS, h5] using this
      · by_cases h1 : k = 1
        · have base : NS M M (gL M t.toNat) (fun _ => 0) (fun q => q t.toNat) := ⟨rfl, fun i h => h, fun q' h _ => ⟨h, fun h1 => h _ h1⟩, fun _ => ⟨subB_zero _, fun h => h⟩⟩
          have := base.keep (U := usesL p.vars.length 5 ix (usesL p.vars.length 5 v M)) _ (hlen M) (hU M hM)
          have ek : ∀ q : Nat → Bool, (cutS q p.vars.length (cutL q p.vars.length d) (.mk k t ix v c b e)).isSome = q t.toNat := fun q => by simp only [cutS, h5, h1, if_false, if_true]; cases q t.toNat <;> simp
          simp only [addS, ek]
          simpa [needS, gL, h5, h1] using this
        · by_cases h2 : k = 2
          · have base : NS M M (gL M (p.vars.length + t.toNat)) (fun _ => 0) (fun q => q (p.vars.length + t.toNat)) := ⟨rfl, fun i h => h, fun q' h _ => ⟨h, fun h1 => h _ h1⟩, fun _ => ⟨subB_zero _, fun h => h⟩⟩
            have := base.keep (U := usesL p.vars.length 5 ix (usesL p.vars.length 5 v M)) _ (hlen M) (hU M hM)
            have ek : ∀ q : Nat → Bool, (cutS q p.vars.length (cutL q p.vars.length d) (.mk k t ix v c b e)).isSome = q (p.vars.length + t.toNat) := fun q => by simp only [cutS, h5, h1, h2, if_false, if_true]; cases q (p.vars.length + t.toNat) <;> simp
            simp only [addS, ek]
            simpa [needS, gL, h5, h1, h2] using this
          · have base := hb.seq he
            have hl2 : (needL p.vars.length d e (needL p.vars.length d b M).2).2.length = L.length := by rw [he.len, hb.len, hM]
            have := base.keep (U := usesL p.vars.length 5 ix (usesL p.vars.length 5 v (needL p.vars.length d e (needL p.vars.length d b M).2).2)) _ (hlen _) (hU _ hl2)
            have ek : ∀ q : Nat → Bool, (cutS q p.vars.length (cutL q p.vars.length d) (.mk k t ix v c b e)).isSome = (decide (0 < (cutL q p.vars.length d b).length) || decide (0 < (cutL q p.vars.length d e).length)) := fun q => by
              simp only [cutS, h5, h1, h2, if_false]
              by_cases hpos : 0 < (cutL q p.vars.length d b).length + (cutL q p.vars.length d e).length
              · rw [if_pos hpos]
                rcases Nat.lt_or_ge 0 (cutL q p.vars.length d b).length with h | h
                · simp [h]
                · have : 0 < (cutL q p.vars.length d e).length := by omega
                  simp [this]
              · rw [if_neg hpos]
                have h1 : ¬ 0 < (cutL q p.vars.length d b).length := by omega
                have h2 : ¬ 0 < (cutL q p.vars.length d e).length := by omega
                simp only [h1, h2]; rfl
            simp only [addS, ek]
            have hc : ¬ (k = 5 ∨ k = 1 ∨ k = 2) := by omega
            simp only [needS, h5, h1, h2, if_false, or_self, Nat.zero_or]
            exact this
    have := NS.fold p.vars.length (needL p.vars.length d) (fun q => cutL q p.vars.length d) (fun q => setN q p.vars.length d) L l (false, L) _ _ hone (NS.nil L)
    simp only [any_pos, Bool.false_or] at this
    exact this

/-- The reference's loop: an invariant, and what holds where it ends. -/
structure Under (p : Pg) (ws L : List Bool) : Prop where
  len : L.length = p.vars.length + p.arrays.length
  want : leB (gL ws) (gL L)
  least : ∀ q' : Nat → Bool, (∀ i, ws.getD i false = true → q' i = true) → subB (setN q' p.vars.length 5 p.body) q' → leB (gL L) q'
theorem Under.start {p : Pg} {ws : List Bool} (h : ws.length = p.vars.length + p.arrays.length) : Under p ws ws := ⟨h, fun i h => h, fun q' h1 _ i h => h1 i h⟩
theorem Under.next {p : Pg} {ws L : List Bool} (hb : ∀ s ∈ p.body, stmtOK p 5 s = true) (h : Under p ws L) : Under p ws (needL p.vars.length 5 p.body L).2 := by
  have n := NS.need 5 p.body L hb h.len
  exact ⟨by rw [n.len, h.len], fun i hi => n.s1 i (h.want i hi), fun q' h1 h2 => (n.s2 q' (h.least q' h1 h2) h2).1⟩
theorem Under.stop {p : Pg} {ws L : List Bool} (hb : ∀ s ∈ p.body, stmtOK p 5 s = true) (h : Under p ws L) (hs : (jnA L (needL p.vars.length 5 p.body L).2 L.length).1 = false) :
    (needL p.vars.length 5 p.body L).2 = L ∧ Least p ws (gL L) := by
  have n := NS.need 5 p.body L hb h.len
  have hle : leB (gL (needL p.vars.length 5 p.body L).2) (gL L) := fun i hi => by
    cases hq : gL L i with
    | true => rfl
    | false =>
      have hlt : i < L.length := by
        rcases Nat.lt_or_ge i (needL p.vars.length 5 p.body L).2.length with h1 | h1
        · rw [n.len] at h1; exact h1
        · simp only [gL, List.getD_eq_getElem?_getD, List.getElem?_eq_none h1, Option.getD_none] at hi; cases hi
      have := (jnA_iff L (needL p.vars.length 5 p.body L).2 L.length).2 ⟨i, hlt, hi, hq⟩
      rw [hs] at this; cases this
  exact ⟨gL_ext n.len n.s1 hle, fun i hi => h.want i hi, (n.s3 hle).1, fun q' h1 h2 => h.least q' h1 h2⟩
/-- How many cells are out: falls where the loop goes on. -/
def outs (L : List Bool) : Nat := L.count false
theorem outs_le : ∀ (L L' : List Bool), L'.length = L.length → leB (gL L) (gL L') → outs L' ≤ outs L ∧ (∀ i, gL L i = false → gL L' i = true → outs L' < outs L)
  | [], L', h, _ => by
    have : L' = [] := List.eq_nil_of_length_eq_zero h
    subst this
    exact ⟨Nat.le_refl _, fun i _ h => by simp [gL] at h⟩
  | a :: r, [], h, _ => by simp at h
  | a :: r, a' :: r', h, hle => by
    have ih := outs_le r r' (by simpa using h) (fun i hi => by have := hle (i + 1); simpa [gL] using this (by simpa [gL] using hi))
    have h0 := hle 0
    have h0 : a = true → a' = true := by simpa [gL] using h0
    unfold outs at ih ⊢
    rw [List.count_cons, List.count_cons]
    refine ⟨?_, fun i hi hi' => ?_⟩
    · cases a <;> cases a' <;> simp_all <;> omega
    · cases i with
      | zero =>
        simp [gL] at hi hi'
        subst hi hi'
        simp
        omega
      | succ i =>
        have h3 := ih.2 i (by simpa [gL] using hi) (by simpa [gL] using hi')
        cases a <;> cases a' <;> simp_all <;> omega
theorem Under.go {p : Pg} {ws L : List Bool} (hb : ∀ s ∈ p.body, stmtOK p 5 s = true) (h : Under p ws L) (hs : (jnA L (needL p.vars.length 5 p.body L).2 L.length).1 = true) : outs (needL p.vars.length 5 p.body L).2 < outs L := by
  have n := NS.need 5 p.body L hb h.len
  obtain ⟨i, _, h1, h2⟩ := (jnA_iff L (needL p.vars.length 5 p.body L).2 L.length).1 hs
  exact (outs_le L _ n.len n.s1).2 i h2 h1
end Go.Proofs.Ytclgjiffpijgmaa.CtD

namespace Go.Proofs.Ytclgjiffpijgmaa.CtD
open Go Go.CT CtF CtR

theorem wkL_bools (L : List Bool) : wkL (L.map fun b => [BC b]).flatten (boolsC L) := by
  rw [boolsC_flat]
  induction L with
  | nil => simp [boolsC, wkL]
  | cons a r ih => simp only [boolsC, List.map_cons] at ih ⊢; simp [wkL, ih]
theorem takeB (L : List Bool) : List.take L.length (boolsC L) = boolsC L := List.take_of_length_le (by rw [boolsC_len]; exact Nat.le_refl _)
theorem beqR (n : Nat) : Nat.beq n n = true := by simp
theorem jflat (L : List Bool) : (L.map fun b => [BC b]).flatten = boolsC L := boolsC_flat L

theorem sliceProgS (p : Pg) (ws : List Bool) (hl : p.vars.length ≤ mx) (hl2 : p.arrays.length ≤ mx) (hb : lsize 5 p.body ≤ 1099511627776) (hw : ws.length ≤ 1000) : DC Try.prog 34 [.agg p.cells, .c (boolsD ws)] [] (sliR p ws) := by
  have hmx := mx_eq
  have hv := programValidS p hl hl2 hb
  have hce := cellsS p hl hl2
  generalize hR : sliR p ws = R
  cases hq : progOK p with
  | false =>
    rw [hq] at hv
    obtain ⟨vs, ar, bd⟩ := p
    refine dcZ Try.func34 ?_
    simp (maxSteps := 9999999) only [go_sem]
    ((try (refine drvZ Try.func34 ?_; simp (maxSteps := 9999999) only [go_sem])); (try ((with_reducible refine And.intro ?_ ?_) <;> (repeat' with_reducible apply And.intro) <;> try exact sd)))
    refine XK.plain hv ok48 ?_ (hbT ())
    iterate 2 ((try (refine drvZ Try.func34 ?_; simp (maxSteps := 9999999) only [go_sem, boolsD, BC])); (try ((with_reducible refine And.intro ?_ ?_) <;> (repeat' with_reducible apply And.intro) <;> try exact sd)))
    refine XK.gskip 3 false (DI .i64 0) ?_ (hbT ())
    iterate 3 ((try (refine drvZ Try.func34 ?_; simp (maxSteps := 9999999) only [go_sem, boolsD, BC])); (try ((with_reducible refine And.intro ?_ ?_) <;> (repeat' with_reducible apply And.intro) <;> try exact sd)))
    exact RetOb.ofQ (fun _ => none) [] (.tup [.agg (Pg.cells ⟨[], [], []⟩), DB false]) [] (by simp [enumL, DM, DMs, CM, CMs, HpOK, LowOK, Pg.cells, isI, St1.cellsL]) (by rw [← hR]; exact ⟨rfl, .inr ⟨by rw [hq]; rfl, rfl⟩⟩) (by simp)
  | true =>
    rw [hq] at hv
    have hln := prog_len hq
    by_cases hwl : ws.length = p.vars.length + p.arrays.length
    · have hcond : (progOK p && decide (ws.length = p.vars.length + p.arrays.length)) = true := by rw [hq]; simp [hwl]
      have hbo := body_of hq
      have hnd := fun L hL => needsS p (by omega) 5 p.body L hbo.1 (by have := hbo.2; omega) hL
      have hcu := fun L hL => cutSp p (by omega) (by omega) L hL 5 p.body hbo.1 (by have := hbo.2; omega)
      have hun := fun L => @Under.next p ws L hbo.1
      have hus := fun L => @Under.stop p ws L hbo.1
      have hug := fun L => @Under.go p ws L hbo.1
      have hnl := fun L => needL_len p.vars.length 5 p.body L
      have hst := @Under.start p ws hwl
      have hul := fun L => @Under.len p ws L
      generalize hU : Under p ws = U at *
      generalize hLe : Least p ws = Le at *
      have hfin : ∀ L, Le (gL L) → R (.tup [.agg (Pg.cells (slP p (gL L))), DB true]) [] := fun L h => by rw [← hR]; exact ⟨rfl, .inl ⟨hcond, gL L, by rw [hLe]; exact h, rfl⟩⟩
      obtain ⟨vs, ar, bd⟩ := p
      have hln : 1 ≤ vs.length ∧ vs.length ≤ 12 ∧ ar.length ≤ 2 := hln
      have hwl : ws.length = vs.length + ar.length := hwl
      simp only at hnd hcu hun hus hug hnl hst hul hfin hce
      have hb1 : ((ws.length : Int) != (vs.length : Int) + (ar.length : Int)) = false := by rw [hwl]; simp
      have hb2 : ((ws.length : Int) = (vs.length : Int) + (ar.length : Int)) = True := eq_true (by omega)
      refine dcZ Try.func34 ?_
      simp (maxSteps := 9999999) only [go_sem]
      ((try (refine drvZ Try.func34 ?_; simp (maxSteps := 9999999) only [go_sem])); (try ((with_reducible refine And.intro ?_ ?_) <;> (repeat' with_reducible apply And.intro) <;> try exact sd)))
      refine XK.plain hv ok48 ?_ (hbT ())
      iterate 2 ((try (refine drvZ Try.func34 ?_; simp (maxSteps := 9999999) only [go_sem, boolsD])); (try ((with_reducible refine And.intro ?_ ?_) <;> (repeat' with_reducible apply And.intro) <;> try exact sd)))
      refine XK.gplain 3 false true (fun _ => hce) ok51 ?_ (hbT ())
      iterate 4 ((try (refine drvZ Try.func34 ?_; simp (maxSteps := 9999999) only [go_sem, boolsD, hb1, hb2, jflat, takeB, boolsC_len])); (try ((with_reducible refine And.intro ?_ ?_) <;> (repeat' with_reducible apply And.intro) <;> try exact sd)))
      refine Go.loopQ (fun L : List Bool => [(2, .c (.ptr 0 0)), (4, .c (.ptr 64 0)), (6, .c (.msl 65 1 0 L.length))])
        (fun L => [(0, some (Pg.cells ⟨vs, ar, bd⟩)), (64, some [.v (.slice none 0 0), .v (.slice none 0 0), .v (.slice none 0 0)]), (65, some (boolsC L))]) 4096 U outs ?_ ws (fun j => if j = 65 then some 960 else some j) [] _ hst ?_
      · intro L hUL again
        have hLl := hul L hUL
        have h1 := hnd L hLl
        have h2 := hnl L
        have h3 := joinS L (needL vs.length 5 bd L).2 (by omega) h2
        have h4 := hun L hUL
        have h5 := hus L hUL
        have h6 := hug L hUL
        generalize hN : needL vs.length 5 bd L = N at *
        obtain ⟨nb, L'⟩ := N
        simp only at h1 h2 h3 h4 h5 h6
        refine drvL Try.func34 ?_
        simp (maxSteps := 9999999) only [go_sem, jflat, takeB, boolsC_len]
        iterate 2 ((try (refine drvZ Try.func34 ?_; simp (maxSteps := 9999999) only [go_sem, jflat, takeB, boolsC_len])); (try ((with_reducible refine And.intro ?_ ?_) <;> (repeat' with_reducible apply And.intro) <;> try exact sd)))
        refine XK.callG [65] h1 ok75 (hhp_one (by simp [hOf, upd, boolsC_ren])) (hbT ()) (fun d h' ⟨_, e⟩ => by subst e; simp) ?_
        rintro _ _ ⟨rfl, rfl⟩ _
        iterate 2 ((try (refine drvZ Try.func34 ?_; simp (maxSteps := 9999999) only [go_sem, boolsC_ren, takeB, boolsC_len])); (try ((with_reducible refine And.intro ?_ ?_) <;> (repeat' with_reducible apply And.intro) <;> try exact sd)))
        refine XK.callG [4224, 65] h3 ok76 (hhp2 (by simp [hOf, upd, boolsC_ren]) (by simp [hOf, upd, boolsC_ren])) (hbT ()) (fun d h' ⟨_, e⟩ => by subst e; simp) ?_
        rintro _ _ ⟨rfl, rfl⟩ _
        cases hj : (jnA L L' L.length).1 with
        | true =>
          iterate 3 ((try (refine drvZ Try.func34 ?_; simp (maxSteps := 9999999) only [go_sem, boolsC_ren, takeB, boolsC_len])); (try ((with_reducible refine And.intro ?_ ?_) <;> (repeat' with_reducible apply And.intro) <;> try exact sd)))
          refine again L' some [] _ h4 (h6 hj) ?_
          simp (maxSteps := 9999999) only [go_sem, TmOK, DM, DMs, CM, CMs, forall_eq, exists_eq_left, Mq, HpOK, LowOK, h2]
          simp
          exact CMs.kf (boolsC_kf _)
        | false =>
          obtain ⟨rfl, hle⟩ := h5 hj
          have h7 := hcu L' hLl
          refine XK.freezeAll 65 1 (boolsC L') (L'.map fun b => [BC b]) ?_ (by simp [appUp, upsFrom, rkey, wkey, hOf, upd, boolsC_ren]) (wkL_bools L') (fun x hx => by obtain ⟨b, _, rfl⟩ := List.mem_map.1 hx; rfl) (fun x hx c hc => by obtain ⟨b, _, rfl⟩ := List.mem_map.1 hx; rw [List.mem_singleton.1 hc]; rfl)
          iterate 5 ((try (refine drvZ Try.func34 ?_; simp (maxSteps := 9999999) only [go_sem, boolsC_ren, takeB, boolsC_len, List.length_map, beqR, flat_I'])); (try ((with_reducible refine And.intro ?_ ?_) <;> (repeat' with_reducible apply And.intro) <;> try exact sd)))
          refine XK.plain h7 ok77 ?_ (hbT ()) (fun _ => by kernel_rfl)
          iterate 4 ((try (refine drvZ Try.func34 ?_; simp (maxSteps := 9999999) only [go_sem, boolsC_ren, takeB, boolsC_len, List.length_map, flat_I'])); (try ((with_reducible refine And.intro ?_ ?_) <;> (repeat' with_reducible apply And.intro) <;> try exact sd)))
          refine RetOb.ofQ (fun _ => none) [5120, 5376] (.tup [.agg (Pg.cells (slP ⟨vs, ar, bd⟩ (gL L'))), DB true]) [] ?_ (hfin L' hle) (by simp)
          simp [enumL, DM, DMs, CM, CMs, HpOK, LowOK, Pg.cells, slP, isI, hOf, upd, flat_I, kf]
          rw [show gL L' = fun i => L'[i]?.getD false from funext fun i => by simp [gL]]
      · simp (maxSteps := 9999999) only [go_sem, TmOK, DM, DMs, CM, CMs, forall_eq, exists_eq_left, Mq, HpOK, LowOK, boolsD, BC]
        try simp
        try exact CMs.kf (boolsC_kf _)
    · have hb1 : ((ws.length : Int) != ((p.vars.length + p.arrays.length : Nat) : Int)) = true := by simp only [bne_iff_ne]; omega
      have hb2 : ((ws.length : Int) = ((p.vars.length + p.arrays.length : Nat) : Int)) = False := eq_false (by omega)
      obtain ⟨vs, ar, bd⟩ := p
      simp only at hb1 hb2 hce
      refine dcZ Try.func34 ?_
      simp (maxSteps := 9999999) only [go_sem]
      ((try (refine drvZ Try.func34 ?_; simp (maxSteps := 9999999) only [go_sem])); (try ((with_reducible refine And.intro ?_ ?_) <;> (repeat' with_reducible apply And.intro) <;> try exact sd)))
      refine XK.plain hv ok48 ?_ (hbT ())
      iterate 2 ((try (refine drvZ Try.func34 ?_; simp (maxSteps := 9999999) only [go_sem, boolsD, BC])); (try ((with_reducible refine And.intro ?_ ?_) <;> (repeat' with_reducible apply And.intro) <;> try exact sd)))
      refine XK.gplain 3 false true (fun _ => hce) ok51 ?_ (hbT ())
      generalize ((vs.length + ar.length : Nat) : Int) = cc at *
      iterate 4 ((try (refine drvZ Try.func34 ?_; simp (maxSteps := 9999999) only [go_sem, boolsD, BC, hb1, hb2])); (try ((with_reducible refine And.intro ?_ ?_) <;> (repeat' with_reducible apply And.intro) <;> try exact sd)))
      exact RetOb.ofQ (fun _ => none) [] (.tup [.agg (Pg.cells ⟨[], [], []⟩), DB false]) [] (by simp [enumL, DM, DMs, CM, CMs, HpOK, LowOK, Pg.cells, isI, St1.cellsL]) (by rw [← hR]; exact ⟨rfl, .inr ⟨by rw [hq]; simpa using hwl, rfl⟩⟩) (by simp)
end Go.Proofs.Ytclgjiffpijgmaa.CtD

namespace Go.Proofs.Ytclgjiffpijgmaa.CtD
open Go Go.CT CtF CtR

/-- A drawn program and the cells that are wanted of it. -/
def dwR (r : D) (h : List (Option (List C))) : Prop := ∃ (p : Pg) (ws : List Bool), r = .tup [.agg p.cells, .c (boolsD ws)] ∧ SmP p ∧ ws.length ≤ 100 ∧ h = []
theorem boolsC_snoc (ws : List Bool) (b : Bool) : boolsC (ws ++ [b]) = boolsC ws ++ [.v (.bool b)] := by simp [boolsC, BC]

theorem drawSliceProgram (bs : List Int) (hb : Fits .u8 bs) (hl : bs.length ≤ mx) : DC Try.prog 32 [bytesD bs] [] dwR := by
  have hmx := mx_eq
  have hop := l17Open bs hl
  have hb' := fits_take hb 2000
  have hl' : (bs.take 2000).length ≤ 2000 := by rw [List.length_take]; omega
  generalize hR : dwR = R
  generalize hbs : bs.take 2000 = b2 at *
  unfold bytesD
  unfold bytesD at hop
  refine dcZ Try.func32 ?_
  simp (maxSteps := 9999999) only [go_sem]
  ((try (refine drvZ Try.func32 ?_; simp (maxSteps := 9999999) only [go_sem])); (try ((with_reducible refine And.intro ?_ ?_) <;> (repeat' with_reducible apply And.intro) <;> try exact sd)))
  refine XK.callG [] hop ok54 (fun i' x h => by simp at h) (hbT ()) (fun d h' ⟨_, e⟩ => by subst e; simp) ?_
  rintro _ _ ⟨rfl, rfl⟩ _
  iterate 2 ((try (refine drvZ Try.func32 ?_; simp (maxSteps := 9999999) only [go_sem, renCs_rdr])); (try ((with_reducible refine And.intro ?_ ?_) <;> (repeat' with_reducible apply And.intro) <;> try exact sd)))
  have hpr := l2Program b2 0 hb' hl' (by omega)
  refine XK.callG [192] hpr ok55 (hhp_one (by simp [upd, renCs_rdr])) (hbT ()) (fun d h' ⟨_, _, _, _, _, _, e⟩ => by subst e; simp) ?_
  rintro _ _ ⟨p, rfl, hp, n1, hn1, hn2, rfl⟩ _
  have hln := prog_len hp.ok
  have hmu := fun n h => l2Mutate b2 n p hb' hl' h hp
  have hce := cellsS p (by omega) (by omega)
  obtain ⟨vs, ar, bd⟩ := p
  have hln : 1 ≤ vs.length ∧ vs.length ≤ 12 ∧ ar.length ≤ 2 := hln
  simp only at hce
  obtain ⟨c, hc⟩ : ∃ c, c = vs.length + ar.length := ⟨_, rfl⟩
  rw [← hc] at hce
  iterate 3 ((try (refine drvZ Try.func32 ?_; simp (maxSteps := 9999999) only [go_sem, renCs_rdr])); (try ((with_reducible refine And.intro ?_ ?_) <;> (repeat' with_reducible apply And.intro) <;> try exact sd)))
  refine XK.plain hce ok51 ?_ (hbT ())
  iterate 2 ((try (refine drvZ Try.func32 ?_; simp (maxSteps := 9999999) only [go_sem, renCs_rdr])); (try ((with_reducible refine And.intro ?_ ?_) <;> (repeat' with_reducible apply And.intro) <;> try exact sd)))
  refine Go.loopQ (fun x : Nat × Nat × List Bool => [(2, .c (.ptr 0 0)), (4, .c (.ptr 192 0)), (5, .c (.ptr 448 0)), (6, .c (.msl 67 1 0 x.2.2.length)), (7, DI .i64 x.1)])
    (fun x => [(0, some [.v (.slice none 0 0), .v (.slice none 0 0), .v (.slice none 0 0)]), (192, some (rdr b2 x.2.1)), (448, some (Pg.cells ⟨vs, ar, bd⟩)), (67, some (boolsC x.2.2))]) 4096
    (fun x => x.2.2.length + x.1 = c ∧ x.2.1 ≤ 2000000 + x.2.2.length) (fun x => x.1) ?_ (c, n1, []) (fun j => if j = 67 then some 576 else some j) [] _ ⟨by simp, by simp; omega⟩ ?_
  · rintro ⟨i, n, ws⟩ ⟨hi, hn⟩ again
    simp only at hi hn
    have hbl := boolsC_len ws
    cases i with
    | succ i =>
      have hpos : ((0 : Int) < ((i : Int) + 1)) = True := eq_true (by omega)
      have hpk := pick b2 n 3 hb' hl' (by omega) (by simp only [InK]; omega)
      refine drvL Try.func32 ?_
      simp (maxSteps := 9999999) only [go_sem, hpos]
      ((try (refine drvZ Try.func32 ?_; simp (maxSteps := 9999999) only [go_sem, hpos])); (try ((with_reducible refine And.intro ?_ ?_) <;> (repeat' with_reducible apply And.intro) <;> try exact sd)))
      refine XK.callG [192] hpk ok58 (hhp_one (by simp [hOf, upd, renCs_rdr])) (hbT ()) (fun d h' ⟨v, _, _, e⟩ => by subst e; simp) ?_
      rintro _ _ ⟨v, rfl, hpv, rfl⟩ _
      by_cases hv : v = 0
      · subst hv
        iterate 3 ((try (refine drvZ Try.func32 ?_; simp (maxSteps := 9999999) only [go_sem, hpos, renCs_rdr, hbl])); (try ((with_reducible refine And.intro ?_ ?_) <;> (repeat' with_reducible apply And.intro) <;> try exact sd)))
        refine again (i, n + 1, ws ++ [true]) (fun j => if j = 67 then some 4544 else some j) [] _ ⟨by simp; omega, by simp; omega⟩ (by simp) ?_
        simp (maxSteps := 9999999) only [go_sem, TmOK, DM, DMs, CM, CMs, forall_eq, exists_eq_left, Mq, HpOK, LowOK, boolsC_snoc, List.length_append]
        simp
        first | exact ⟨CMs.kf (rdr_kf _ _), CMs.kf (kf_app (boolsC_kf _) (by simp [kf]))⟩ | exact ⟨CMs.kf (kf_app (boolsC_kf _) (by simp [kf])), CMs.kf (rdr_kf _ _)⟩
      · have e1 : (v == 0) = false := by simp [hv]
        iterate 3 ((try (refine drvZ Try.func32 ?_; simp (maxSteps := 9999999) only [go_sem, hpos, renCs_rdr, e1, hv, hbl])); (try ((with_reducible refine And.intro ?_ ?_) <;> (repeat' with_reducible apply And.intro) <;> try exact sd)))
        refine again (i, n + 1, ws ++ [false]) (fun j => if j = 67 then some 4544 else some j) [] _ ⟨by simp; omega, by simp; omega⟩ (by simp) ?_
        simp (maxSteps := 9999999) only [go_sem, TmOK, DM, DMs, CM, CMs, forall_eq, exists_eq_left, Mq, HpOK, LowOK, boolsC_snoc, List.length_append]
        simp
        first | exact ⟨CMs.kf (rdr_kf _ _), CMs.kf (kf_app (boolsC_kf _) (by simp [kf]))⟩ | exact ⟨CMs.kf (kf_app (boolsC_kf _) (by simp [kf])), CMs.kf (rdr_kf _ _)⟩
    | zero =>
      have hz : ((0 : Int) < 0) = False := eq_false (by omega)
      have hpk := pick b2 n 30 hb' hl' (by omega) (by simp only [InK]; omega)
      refine drvL Try.func32 ?_
      simp (maxSteps := 9999999) only [go_sem, Int.natCast_zero, hz]
      iterate 2 ((try (refine drvZ Try.func32 ?_; simp (maxSteps := 9999999) only [go_sem, Int.natCast_zero, hz])); (try ((with_reducible refine And.intro ?_ ?_) <;> (repeat' with_reducible apply And.intro) <;> try exact sd)))
      refine XK.callG [192] hpk ok58 (hhp_one (by simp [hOf, upd, renCs_rdr])) (hbT ()) (fun d h' ⟨v, _, _, e⟩ => by subst e; simp) ?_
      rintro _ _ ⟨v, rfl, hpv, rfl⟩ _
      have hmu := hmu (n + 1) (by omega)
      by_cases hv : v = 0
      · subst hv
        iterate 3 ((try (refine drvZ Try.func32 ?_; simp (maxSteps := 9999999) only [go_sem, renCs_rdr, hbl])); (try ((with_reducible refine And.intro ?_ ?_) <;> (repeat' with_reducible apply And.intro) <;> try exact sd)))
        refine XK.callG [192] hmu ok69 (hhp_one (by simp [hOf, upd, renCs_rdr])) (hbT ()) (fun d h' ⟨_, _, _, _, _, _, e⟩ => by subst e; simp) ?_
        rintro _ _ ⟨p2, rfl, hp2, n4, hn7, hn8, rfl⟩ _
        obtain ⟨vs2, ar2, bd2⟩ := p2
        iterate 3 ((try (refine drvZ Try.func32 ?_; simp (maxSteps := 9999999) only [go_sem, renCs_rdr])); (try ((with_reducible refine And.intro ?_ ?_) <;> (repeat' with_reducible apply And.intro) <;> try exact sd)))
        refine RetOb.ofQ (fun _ => none) [4544] (.tup [.agg (Pg.cells ⟨vs2, ar2, bd2⟩), .c (boolsD (ws ++ [true]))]) [] ?_ (by rw [← hR]; exact ⟨_, _, rfl, hp2, by simp; omega, rfl⟩) (by simp)
        simp [enumL, DM, DMs, CM, CMs, HpOK, LowOK, hOf, Pg.cells, isI, upd, boolsD, kf]
        exact ⟨(jflat ws).symm, fun x hx => by rcases hx with (⟨_, rfl⟩ | ⟨_, rfl⟩) | rfl <;> rfl, fun x hx c hc => by rcases hx with (⟨_, rfl⟩ | ⟨_, rfl⟩) | rfl <;> (rw [List.mem_singleton.1 hc])⟩
      · have e1 : (v == 0) = false := by simp [hv]
        iterate 3 ((try (refine drvZ Try.func32 ?_; simp (maxSteps := 9999999) only [go_sem, renCs_rdr, e1, hv, hbl])); (try ((with_reducible refine And.intro ?_ ?_) <;> (repeat' with_reducible apply And.intro) <;> try exact sd)))
        refine XK.callG [192] hmu ok69 (hhp_one (by simp [hOf, upd, renCs_rdr])) (hbT ()) (fun d h' ⟨_, _, _, _, _, _, e⟩ => by subst e; simp) ?_
        rintro _ _ ⟨p2, rfl, hp2, n4, hn7, hn8, rfl⟩ _
        obtain ⟨vs2, ar2, bd2⟩ := p2
        iterate 3 ((try (refine drvZ Try.func32 ?_; simp (maxSteps := 9999999) only [go_sem, renCs_rdr])); (try ((with_reducible refine And.intro ?_ ?_) <;> (repeat' with_reducible apply And.intro) <;> try exact sd)))
        refine RetOb.ofQ (fun _ => none) [67] (.tup [.agg (Pg.cells ⟨vs2, ar2, bd2⟩), .c (boolsD ws)]) [] ?_ (by rw [← hR]; exact ⟨_, _, rfl, hp2, by omega, rfl⟩) (by simp)
        simp [enumL, DM, DMs, CM, CMs, HpOK, LowOK, hOf, Pg.cells, isI, upd, boolsD, kf]
        exact ⟨(jflat ws).symm, fun x hx => by rcases hx with ⟨_, rfl⟩ | ⟨_, rfl⟩ <;> rfl, fun x hx c hc => by rcases hx with ⟨_, rfl⟩ | ⟨_, rfl⟩ <;> (rw [List.mem_singleton.1 hc])⟩
  · simp (maxSteps := 9999999) only [go_sem, TmOK, DM, DMs, CM, CMs, forall_eq, exists_eq_left, Mq, HpOK, LowOK, renCs_rdr]
    simp [boolsC, CMs]
    exact CMs.kf (rdr_kf _ _)
end Go.Proofs.Ytclgjiffpijgmaa.CtD
