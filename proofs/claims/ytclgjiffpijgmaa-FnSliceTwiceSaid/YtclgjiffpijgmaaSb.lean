/- Contracts of functions of the program, one behind the other, as plain data: what each call returns and which blocks it leaves. -/
import Derived.Test.YtclgjiffpijgmaaFacts
import Derived.Test.YtclgjiffpijgmaaCtC
import Derived.Test.YtclgjiffpijgmaaVa
import Derived.Test.YtclgjiffpijgmaaVb
import Derived.Test.YtclgjiffpijgmaaRb
import Derived.Test.YtclgjiffpijgmaaRc
import Derived.Test.YtclgjiffpijgmaaDc
import Derived.Test.YtclgjiffpijgmaaSa
import Derived.Test.YtclgjiffpijgmaaVc
import Derived.Test.YtclgjiffpijgmaaRa
set_option linter.unusedVariables false
set_option linter.unusedSimpArgs false
namespace Go.Proofs.Ytclgjiffpijgmaa.CtD
open Go Go.CT CtF CtR

def slP (p : Pg) (q : Nat → Bool) : Pg := ⟨p.vars, p.arrays, cutL q p.vars.length 5 p.body⟩
def sliR (p : Pg) (ws : List Bool) (r : D) (h : List (Option (List C))) : Prop :=
  h = [] ∧ (((progOK p && decide (ws.length = p.vars.length + p.arrays.length)) = true ∧ ∃ q, Least p ws q ∧ r = .tup [.agg (Pg.cells (slP p q)), DB true]) ∨
    ((progOK p && decide (ws.length = p.vars.length + p.arrays.length)) = false ∧ r = .tup [.agg (Pg.cells ⟨[], [], []⟩), DB false]))
theorem or_ge (a b : Nat) : a ≤ a ||| b := Nat.left_le_or
theorem setN_le (p : Pg) (h : progOK p = true) (q : Nat → Bool) : setN q p.vars.length 5 p.body < 16384 := setN_lt (by have := prog_len h; omega) 5 p.body (body_of h).1
theorem cut_ok {p : Pg} {q : Nat → Bool} {nv : Nat} : ∀ (d : Nat) (l : List St1), (∀ s ∈ l, stmtOK p d s = true) → (∀ s ∈ cutL q nv d l, stmtOK p d s = true) ∧ ∀ k, lsize k (cutL q nv d l) ≤ lsize k l
  | 0, l, h => by
    refine ⟨fun s hs => by simp [cutL] at hs, fun k => by simp [cutL, lsize]⟩
  | d + 1, l, h => by
    have hone : ∀ s ∈ l, ∀ s', cutS q nv (cutL q nv d) s = some s' → stmtOK p (d + 1) s' = true ∧ ∀ k, tsize k s' ≤ tsize k s := fun s hs s' he => by
      have hok := h s hs
      obtain ⟨k, t, ix, v, c, b, e⟩ := s
      have hbe := stmtOK_succ hok
      simp only [cutS] at he
      by_cases h5 : k = 5
      · rw [if_pos h5] at he; simp only [Option.some.injEq] at he; rw [← he]; exact ⟨hok, fun k => Nat.le_refl _⟩
      · rw [if_neg h5] at he
        by_cases h1 : k = 1
        · rw [if_pos h1] at he
          split at he
          · simp only [Option.some.injEq] at he; rw [← he]; exact ⟨hok, fun k => Nat.le_refl _⟩
          · cases he
        · rw [if_neg h1] at he
          by_cases h2 : k = 2
          · rw [if_pos h2] at he
            split at he
            · simp only [Option.some.injEq] at he; rw [← he]; exact ⟨hok, fun k => Nat.le_refl _⟩
            · cases he
          · rw [if_neg h2] at he
            split at he
            · simp only [Option.some.injEq] at he
              rw [← he]
              have ib := cut_ok (q := q) (nv := nv) d b hbe.2.1
              have ie := cut_ok (q := q) (nv := nv) d e hbe.2.2
              refine ⟨?_, fun k => ?_⟩
              · have hh := hbe.1
                have hk := head_kind hh
                simp only [stmtOK, Bool.and_eq_true, List.all_eq_true]
                refine ⟨⟨?_, ib.1⟩, ie.1⟩
                have hel : k = 4 → e.length = 0 := fun hk4 => by
                  subst hk4
                  unfold headOK parts at hh
                  simp at hh
                  grind
                have hce : k = 4 → (cutL q nv d e).length = 0 := fun hk4 => by
                  have : e = [] := List.eq_nil_of_length_eq_zero (hel hk4)
                  subst this
                  cases d <;> simp [cutL]
                unfold headOK parts blk at hh ⊢
                rcases hk with ⟨hk, _⟩ | ⟨hk, _⟩ | ⟨hk, _⟩ | ⟨hk, _⟩
                · omega
                · omega
                · subst hk; simpa using hh
                · have h1 := hel hk
                  have h2 := hce hk
                  rw [h1] at hh
                  rw [h2]
                  subst hk; simpa using hh
              · cases k with
                | zero => exact Nat.le_refl _
                | succ k =>
                  have e1 := ib.2 k
                  have e2 := ie.2 k
                  simp only [lsize] at e1 e2
                  simp only [tsize]
                  omega
            · cases he
    simp only [cutL]
    refine ⟨fun s hs => ?_, fun k => ?_⟩
    · obtain ⟨x, hx, he⟩ := List.mem_filterMap.1 hs
      exact (hone x hx s he).1
    · clear h
      induction l with
      | nil => simp [lsize]
      | cons a r ih =>
        have ih := ih fun s hs => hone s (by simp [hs])
        have ha := hone a (by simp)
        cases hc : cutS q nv (cutL q nv d) a with
        | none => simp only [List.filterMap_cons, hc, lsize, List.map_cons, List.sum_cons] at ih ⊢; omega
        | some y =>
          have := (ha y hc).2 k
          simp only [List.filterMap_cons, hc, lsize, List.map_cons, List.sum_cons] at ih ⊢; omega
theorem slP_ok {p : Pg} (q : Nat → Bool) (h : progOK p = true) : progOK (slP p q) = true := by
  have hb := body_of h
  have hc := cut_ok (q := q) (nv := p.vars.length) 5 p.body hb.1
  have h2 := hc.2 5
  simp only [progOK, Bool.and_eq_true, decide_eq_true_eq, List.all_eq_true] at h ⊢
  obtain ⟨vs, ar, bd⟩ := p
  exact ⟨⟨h.1.1, fun s hs => by show stmtOK ⟨vs, ar, cutL q vs.length 5 bd⟩ 5 s = true; rw [stmtOK_bd vs ar _ bd]; exact hc.1 s hs⟩, by have := h.2; simp only [slP] at *; omega⟩
end Go.Proofs.Ytclgjiffpijgmaa.CtD

namespace Go.Proofs.Ytclgjiffpijgmaa.CtD
open Go Go.CT CtF CtR

theorem truthI (b : Bool) : ((if b then (1 : Int) else 0)) = ((if b then 1 else 0 : Nat) : Int) := by cases b <;> rfl

set_option maxHeartbeats 16000000 in
set_option maxRecDepth 10000 in
theorem sliceProgI (p : Pg) (ws : List Bool) (hl : p.vars.length ≤ mx) (hl2 : p.arrays.length ≤ mx) (hw : ws.length ≤ 1000) : DC Try.prog 33 [.agg p.cells, .c (boolsD ws)] [] (sliR p ws) := by
  have hmx := mx_eq
  have hv := programValidI p hl hl2
  have hce := cellsI p hl hl2
  have hown := fun q h => ownStmts p 5 (cutL q p.vars.length 5 p.body) (cut_ok 5 p.body h).1
  have hcl1 := cloneI p.vars
  have hcl2 := cloneI p.arrays
  have hsz := fun (q : Nat → Bool) h => (cut_ok (p := p) (q := q) (nv := p.vars.length) 5 p.body h).2 5
  have hsl := fun hn N hN => sliceI p hn N hN 5 p.body
  generalize hR : sliR p ws = R
  have bad : ∀ hp : Hp, (progOK p && decide (ws.length = p.vars.length + p.arrays.length)) = false → RetOb 0 R (.tup [.agg [.v (.slice none 0 0), .v (.slice none 0 0), .v (.slice none 0 0)], DB false]) hp := fun hp hb => by
    refine RetOb.ofQ (fun _ => none) [] (.tup [.agg (Pg.cells ⟨[], [], []⟩), DB false]) [] ?_ (by rw [← hR]; exact ⟨rfl, .inr ⟨hb, rfl⟩⟩) (by simp)
    simp [enumL, DM, DMs, CM, CMs, HpOK, LowOK, Pg.cells, isI, St1.cellsL]
  cases hq : progOK p with
  | false =>
    have bad := fun hp => bad hp (by rw [hq]; rfl)
    rw [hq] at hv
    obtain ⟨vs, ar, bd⟩ := p
    refine dc_of_go Try.func33 rfl (by simp) ?_
    refine drv_sound (n := 12) (rs := _) Try.func33 mo rfl none _ _ ?_
    simp (maxSteps := 10000000) (maxDischargeDepth := 300) only [go_sem, Pg.cells, Ex.cells, St1.cells, isI, I64, Ex.cellsL_length, Ex.cellsL_get, St1.cellsL_length, St1.cellsL_get]
    iterate 1 ((try (refine drv_sound (n := 12) (rs := _) Try.func33 mo rfl _ _ _ ?_; simp (maxSteps := 10000000) (maxDischargeDepth := 300) only [go_sem, Pg.cells, Ex.cells, St1.cells, isI, I64, Ex.cellsL_length, Ex.cellsL_get, St1.cellsL_length, St1.cellsL_get])); (try ((with_reducible refine And.intro ?_ ?_) <;> (repeat' with_reducible apply And.intro) <;> (try first | omega | (simp only [InK]; omega) | (intro k e; cases e; rfl) | (intro hguard; exact ⟨hguard, by simp only [InK]; omega⟩) | kernel_rfl))))
    refine XK.plain hv ok44 ?_ (hbT ())
    iterate 2 ((try (refine drv_sound (n := 12) (rs := _) Try.func33 mo rfl _ _ _ ?_; simp (maxSteps := 10000000) (maxDischargeDepth := 300) only [go_sem, Pg.cells, Ex.cells, St1.cells, isI, I64, Ex.cellsL_length, Ex.cellsL_get, St1.cellsL_length, St1.cellsL_get, boolsD, BC])); (try ((with_reducible refine And.intro ?_ ?_) <;> (repeat' with_reducible apply And.intro) <;> (try first | omega | (simp only [InK]; omega) | (intro k e; cases e; rfl) | (intro hguard; exact ⟨hguard, by simp only [InK]; omega⟩) | kernel_rfl))))
    refine XK.gskip 3 false (DI .i64 0) ?_ (hbT ())
    iterate 3 ((try (refine drv_sound (n := 12) (rs := _) Try.func33 mo rfl _ _ _ ?_; simp (maxSteps := 10000000) (maxDischargeDepth := 300) only [go_sem, Pg.cells, Ex.cells, St1.cells, isI, I64, Ex.cellsL_length, Ex.cellsL_get, St1.cellsL_length, St1.cellsL_get, boolsD, BC])); (try ((with_reducible refine And.intro ?_ ?_) <;> (repeat' with_reducible apply And.intro) <;> (try first | omega | (simp only [InK]; omega) | (intro k e; cases e; rfl) | (intro hguard; exact ⟨hguard, by simp only [InK]; omega⟩) | kernel_rfl))))
    exact RetOb.ofQ (fun _ => none) [] (.tup [.agg (Pg.cells ⟨[], [], []⟩), DB false]) [] (by simp [enumL, DM, DMs, CM, CMs, HpOK, LowOK, Pg.cells, isI, St1.cellsL]) (by rw [← hR]; exact ⟨rfl, .inr ⟨by rw [hq]; rfl, rfl⟩⟩) (by simp)
  | true =>
    rw [hq] at hv
    have hln := prog_len hq
    by_cases hwl : ws.length = p.vars.length + p.arrays.length
    · have hcond : (progOK p && decide (ws.length = p.vars.length + p.arrays.length)) = true := by rw [hq]; simp [hwl]
      have hbo := body_of hq
      have hset := fun q => setN_le p hq q
      have hown := fun q => hown q hbo.1 (by have := hsz q hbo.1; have := hbo.2; omega)
      have hsl := fun N hN => hsl (by omega) N hN hbo.1 (by have := hbo.2; omega)
      have hfin : ∀ N : Nat, (∀ i, ws.getD i false = true → N.testBit i = true) → (∀ q' : Nat → Bool, (∀ i, ws.getD i false = true → q' i = true) → subB (setN q' p.vars.length 5 p.body) q' → leB N.testBit q') → N ||| setN N.testBit p.vars.length 5 p.body = N → Least p ws N.testBit := fun N h1 h2 h3 =>
        ⟨h1, fun i hi => by rw [← h3, Nat.testBit_or, hi, Bool.or_true], h2⟩
      have hstep : ∀ N : Nat, (∀ q' : Nat → Bool, (∀ i, ws.getD i false = true → q' i = true) → subB (setN q' p.vars.length 5 p.body) q' → leB N.testBit q') → (∀ q' : Nat → Bool, (∀ i, ws.getD i false = true → q' i = true) → subB (setN q' p.vars.length 5 p.body) q' → leB (N ||| setN N.testBit p.vars.length 5 p.body).testBit q') := fun N h q' a b =>
        subB_or.2 ⟨h q' a b, (cut_mono p.vars.length (h q' a b) 5 p.body).2 q' b⟩
      obtain ⟨vs, ar, bd⟩ := p
      have hln : 1 ≤ vs.length ∧ vs.length ≤ 12 ∧ ar.length ≤ 2 := hln
      have hwl : ws.length = vs.length + ar.length := hwl
      simp only at hset hown hsl hfin hstep hcl1 hcl2 hce
      have hb1 : ((ws.length : Int) != (vs.length : Int) + (ar.length : Int)) = false := by rw [hwl]; simp
      have hb2 : ((ws.length : Int) = (vs.length : Int) + (ar.length : Int)) = True := eq_true (by omega)
      refine dc_of_go Try.func33 rfl (by simp) ?_
      refine drv_sound (n := 12) (rs := _) Try.func33 mo rfl none _ _ ?_
      simp (maxSteps := 10000000) (maxDischargeDepth := 300) only [go_sem, Pg.cells, Ex.cells, St1.cells, isI, I64, Ex.cellsL_length, Ex.cellsL_get, St1.cellsL_length, St1.cellsL_get]
      iterate 1 ((try (refine drv_sound (n := 12) (rs := _) Try.func33 mo rfl _ _ _ ?_; simp (maxSteps := 10000000) (maxDischargeDepth := 300) only [go_sem, Pg.cells, Ex.cells, St1.cells, isI, I64, Ex.cellsL_length, Ex.cellsL_get, St1.cellsL_length, St1.cellsL_get])); (try ((with_reducible refine And.intro ?_ ?_) <;> (repeat' with_reducible apply And.intro) <;> (try first | omega | (simp only [InK]; omega) | (intro k e; cases e; rfl) | (intro hguard; exact ⟨hguard, by simp only [InK]; omega⟩) | kernel_rfl))))
      refine XK.plain hv ok44 ?_ (hbT ())
      iterate 2 ((try (refine drv_sound (n := 12) (rs := _) Try.func33 mo rfl _ _ _ ?_; simp (maxSteps := 10000000) (maxDischargeDepth := 300) only [go_sem, Pg.cells, Ex.cells, St1.cells, isI, I64, Ex.cellsL_length, Ex.cellsL_get, St1.cellsL_length, St1.cellsL_get, boolsD, BC])); (try ((with_reducible refine And.intro ?_ ?_) <;> (repeat' with_reducible apply And.intro) <;> (try first | omega | (simp only [InK]; omega) | (intro k e; cases e; rfl) | (intro hguard; exact ⟨hguard, by simp only [InK]; omega⟩) | kernel_rfl))))
      refine XK.gplain 3 false true (fun _ => hce) ok70 ?_ (hbT ())
      iterate 3 ((try (refine drv_sound (n := 12) (rs := _) Try.func33 mo rfl _ _ _ ?_; simp (maxSteps := 10000000) (maxDischargeDepth := 300) only [go_sem, Pg.cells, Ex.cells, St1.cells, isI, I64, Ex.cellsL_length, Ex.cellsL_get, St1.cellsL_length, St1.cellsL_get, boolsD, BC, hb1, hb2])); (try ((with_reducible refine And.intro ?_ ?_) <;> (repeat' with_reducible apply And.intro) <;> (try first | omega | (simp only [InK]; omega) | (intro k e; cases e; rfl) | (intro hguard; exact ⟨hguard, by simp only [InK]; omega⟩) | kernel_rfl))))
      refine Go.loopQ (fun i : Nat => [(2, .c (.ptr 0 0)), (4, .c (.ptr 64 0)), (6, DI .i64 (accN ws i)), (22, .c (boolsD ws)), (23, DI .i64 ws.length), (24, DI .i64 i)])
        (fun _ => [(0, some (Pg.cells ⟨vs, ar, bd⟩)), (64, some [.v (.slice none 0 0), .v (.slice none 0 0), .v (.slice none 0 0)])]) 4096 (fun i => i ≤ ws.length) (fun i => ws.length - i) ?_ 0 some [] _ (Nat.zero_le _) ?_
      · intro i hi again
        rcases Nat.lt_or_ge i ws.length with hlt | hge
        · obtain ⟨b, hbx⟩ : ∃ b, ws[i]? = some b := ⟨ws[i], by simp [hlt]⟩
          have hgd : ws.getD i false = b := by rw [List.getD_eq_getElem?_getD, hbx]; rfl
          have hac : accN ws (i + 1) = accN ws i ||| (if b then 1 else 0) * 2 ^ i := by rw [accN, hgd]
          have hal := accN_lt ws i (by omega)
          have hp14 := pow14 (show i < 14 by omega)
          have hp14i := pow14i hp14
          have hpp : (0 : Int) < 2 ^ i := Int.pow_pos (by decide)
          have hbits : ((IntKind.i64).bits : Int) = 64 := rfl
          have hcast : (2 : Int) ^ i = ((2 ^ i : Nat) : Int) := by rw [Int.natCast_pow]; rfl
          generalize accN ws i = ac at *
          refine drv_sound (n := 12) (rs := _) Try.func33 mo rfl none _ _ ?_
          simp (maxSteps := 10000000) (maxDischargeDepth := 300) only [go_sem, Pg.cells, Ex.cells, St1.cells, isI, I64, Ex.cellsL_length, Ex.cellsL_get, St1.cellsL_length, St1.cellsL_get, boolsD, BC, hbx, hlt]
          iterate 2 ((try (refine drv_sound (n := 12) (rs := _) Try.func33 mo rfl _ _ _ ?_; simp (maxSteps := 10000000) (maxDischargeDepth := 300) only [go_sem, Pg.cells, Ex.cells, St1.cells, isI, I64, Ex.cellsL_length, Ex.cellsL_get, St1.cellsL_length, St1.cellsL_get, boolsD, BC, hbx, hlt])); (try ((with_reducible refine And.intro ?_ ?_) <;> (repeat' with_reducible apply And.intro) <;> (try first | omega | (simp only [InK]; omega) | (intro k e; cases e; rfl) | (intro hguard; exact ⟨hguard, by simp only [InK]; omega⟩) | kernel_rfl))))
          refine XK.plain (truth b) ok71 ?_ (hbT ())
          cases b with
          | true =>
            simp only [if_true, Nat.one_mul] at hac
            have h1 : ((2 : Int) ^ i).toNat = 2 ^ i := by rw [hcast]; rfl
            iterate 3 ((try (refine drv_sound (n := 12) (rs := _) Try.func33 mo rfl _ _ _ ?_; simp (maxSteps := 10000000) (maxDischargeDepth := 300) only [go_sem, Pg.cells, Ex.cells, St1.cells, isI, I64, Ex.cellsL_length, Ex.cellsL_get, St1.cellsL_length, St1.cellsL_get, boolsD, BC, hbits, if_true, Int.one_mul, h1])); (try ((with_reducible refine And.intro ?_ ?_) <;> (repeat' with_reducible apply And.intro) <;> (try first | omega | (simp only [InK]; omega) | (intro k e; cases e; rfl) | (intro hguard; exact ⟨hguard, by simp only [InK]; omega⟩) | kernel_rfl))))
            refine again (i + 1) some [] _ hlt (by omega) ?_
            simp (maxSteps := 10000000) (maxDischargeDepth := 300) only [go_sem, TmOK, DM, DMs, CM, CMs, forall_eq, exists_eq_left, Mq, HpOK, LowOK, Pg.cells, Ex.cells, St1.cells, isI, I64, Ex.cellsL_length, Ex.cellsL_get, St1.cellsL_length, St1.cellsL_get, boolsD, BC, hac]
            try simp
          | false =>
            simp only [Bool.false_eq_true, if_false, Nat.zero_mul, Nat.or_zero] at hac
            iterate 3 ((try (refine drv_sound (n := 12) (rs := _) Try.func33 mo rfl _ _ _ ?_; simp (maxSteps := 10000000) (maxDischargeDepth := 300) only [go_sem, Pg.cells, Ex.cells, St1.cells, isI, I64, Ex.cellsL_length, Ex.cellsL_get, St1.cellsL_length, St1.cellsL_get, boolsD, BC, hbits, Bool.false_eq_true, if_false, Int.zero_mul, Nat.or_zero])); (try ((with_reducible refine And.intro ?_ ?_) <;> (repeat' with_reducible apply And.intro) <;> (try first | omega | (simp only [InK]; omega) | (intro k e; cases e; rfl) | (intro hguard; exact ⟨hguard, by simp only [InK]; omega⟩) | kernel_rfl))))
            refine again (i + 1) some [] _ hlt (by omega) ?_
            simp (maxSteps := 10000000) (maxDischargeDepth := 300) only [go_sem, TmOK, DM, DMs, CM, CMs, forall_eq, exists_eq_left, Mq, HpOK, LowOK, Pg.cells, Ex.cells, St1.cells, isI, I64, Ex.cellsL_length, Ex.cellsL_get, St1.cellsL_length, St1.cellsL_get, boolsD, BC, hac]
            try simp
        · have hn2 : ¬ i < ws.length := by omega
          obtain rfl : i = ws.length := by omega
          clear again
          refine drv_sound (n := 12) (rs := _) Try.func33 mo rfl none _ _ ?_
          simp (maxSteps := 10000000) (maxDischargeDepth := 300) only [go_sem, Pg.cells, Ex.cells, St1.cells, isI, I64, Ex.cellsL_length, Ex.cellsL_get, St1.cellsL_length, St1.cellsL_get, boolsD, BC, hn2]
          iterate 1 ((try (refine drv_sound (n := 12) (rs := _) Try.func33 mo rfl _ _ _ ?_; simp (maxSteps := 10000000) (maxDischargeDepth := 300) only [go_sem, Pg.cells, Ex.cells, St1.cells, isI, I64, Ex.cellsL_length, Ex.cellsL_get, St1.cellsL_length, St1.cellsL_get, boolsD, BC, hn2])); (try ((with_reducible refine And.intro ?_ ?_) <;> (repeat' with_reducible apply And.intro) <;> (try first | omega | (simp only [InK]; omega) | (intro k e; cases e; rfl) | (intro hguard; exact ⟨hguard, by simp only [InK]; omega⟩) | kernel_rfl))))
          refine Go.loopQ (fun N : Nat => [(2, .c (.ptr 0 0)), (4, .c (.ptr 64 0)), (6, DI .i64 N)])
            (fun _ => [(0, some (Pg.cells ⟨vs, ar, bd⟩)), (64, some [.v (.slice none 0 0), .v (.slice none 0 0), .v (.slice none 0 0)])]) 8192
            (fun N => N < 16384 ∧ (∀ i, ws.getD i false = true → N.testBit i = true) ∧ (∀ q' : Nat → Bool, (∀ i, ws.getD i false = true → q' i = true) → subB (setN q' vs.length 5 bd) q' → leB N.testBit q')) (fun N => 16384 - N) ?_ (accN ws ws.length) some [] _ ⟨accN_lt ws _ (by omega), fun i hi => ?_, fun q' a b i hi => ?_⟩ ?_
          · rintro N ⟨hN, hN1, hN2⟩ again
            have hS := hset N.testBit
            have hS2 := hsl N hN
            have hfi := hfin N hN1 hN2
            have hst := hstep N hN2
            have hge := or_ge N (setN N.testBit vs.length 5 bd)
            have hlt2 := or_lt hN hS
            generalize hSS : setN N.testBit vs.length 5 bd = SS at *
            refine drv_sound (n := 12) (rs := _) Try.func33 mo rfl none _ _ ?_
            simp (maxSteps := 10000000) (maxDischargeDepth := 300) only [go_sem, Pg.cells, Ex.cells, St1.cells, isI, I64, Ex.cellsL_length, Ex.cellsL_get, St1.cellsL_length, St1.cellsL_get]
            refine XK.plain hS2 ok72 ?_ (hbT ())
            by_cases heq : N ||| SS = N
            · have c1 : (((N ||| SS : Nat) : Int) == (N : Int)) = true := by rw [heq]; simp
              have c2 : (((N ||| SS : Nat) : Int) = (N : Int)) = True := eq_true (by rw [heq])
              iterate 3 ((try (refine drv_sound (n := 12) (rs := _) Try.func33 mo rfl _ _ _ ?_; simp (maxSteps := 10000000) (maxDischargeDepth := 300) only [go_sem, Pg.cells, Ex.cells, St1.cells, isI, I64, Ex.cellsL_length, Ex.cellsL_get, St1.cellsL_length, St1.cellsL_get, c1, c2])); (try ((with_reducible refine And.intro ?_ ?_) <;> (repeat' with_reducible apply And.intro) <;> (try first | omega | (simp only [InK]; omega) | (intro k e; cases e; rfl) | (intro hguard; exact ⟨hguard, by simp only [InK]; omega⟩) | kernel_rfl))))
              refine XK.callG [] (hcl1 (by omega)) ok73 (fun i' x h => by simp at h) (hbT ()) (fun d h' ⟨_, e⟩ => by subst e; simp) ?_ (fun _ => ⟨by kernel_rfl, _, _, ⟨rfl, rfl⟩, by simp⟩)
              rintro _ _ ⟨rfl, rfl⟩ _
              iterate 2 ((try (refine drv_sound (n := 12) (rs := _) Try.func33 mo rfl _ _ _ ?_; simp (maxSteps := 10000000) (maxDischargeDepth := 300) only [go_sem, Pg.cells, Ex.cells, St1.cells, isI, I64, Ex.cellsL_length, Ex.cellsL_get, St1.cellsL_length, St1.cellsL_get, renCs_I])); (try ((with_reducible refine And.intro ?_ ?_) <;> (repeat' with_reducible apply And.intro) <;> (try first | omega | (simp only [InK]; omega) | (intro k e; cases e; rfl) | (intro hguard; exact ⟨hguard, by simp only [InK]; omega⟩) | kernel_rfl))))
              refine XK.callG [] (hcl2 (by omega)) ok73 (fun i' x h => by simp at h) (hbT ()) (fun d h' ⟨_, e⟩ => by subst e; simp) ?_ (fun _ => ⟨by kernel_rfl, _, _, ⟨rfl, rfl⟩, by simp⟩)
              rintro _ _ ⟨rfl, rfl⟩ _
              iterate 2 ((try (refine drv_sound (n := 12) (rs := _) Try.func33 mo rfl _ _ _ ?_; simp (maxSteps := 10000000) (maxDischargeDepth := 300) only [go_sem, Pg.cells, Ex.cells, St1.cells, isI, I64, Ex.cellsL_length, Ex.cellsL_get, St1.cellsL_length, St1.cellsL_get, renCs_I])); (try ((with_reducible refine And.intro ?_ ?_) <;> (repeat' with_reducible apply And.intro) <;> (try first | omega | (simp only [InK]; omega) | (intro k e; cases e; rfl) | (intro hguard; exact ⟨hguard, by simp only [InK]; omega⟩) | kernel_rfl))))
              refine XK.plain (hown N.testBit) ok74 ?_ (hbT ()) (fun _ => by kernel_rfl)
              iterate 3 ((try (refine drv_sound (n := 12) (rs := _) Try.func33 mo rfl _ _ _ ?_; simp (maxSteps := 10000000) (maxDischargeDepth := 300) only [go_sem, Pg.cells, Ex.cells, St1.cells, isI, I64, Ex.cellsL_length, Ex.cellsL_get, St1.cellsL_length, St1.cellsL_get, renCs_I])); (try ((with_reducible refine And.intro ?_ ?_) <;> (repeat' with_reducible apply And.intro) <;> (try first | omega | (simp only [InK]; omega) | (intro k e; cases e; rfl) | (intro hguard; exact ⟨hguard, by simp only [InK]; omega⟩) | kernel_rfl))))
              refine RetOb.ofQ (fun _ => none) [9280, 9472] (.tup [.agg (Pg.cells (slP ⟨vs, ar, bd⟩ N.testBit)), DB true]) [] ?_ (by rw [← hR]; exact ⟨rfl, .inl ⟨hcond, N.testBit, hfi heq, rfl⟩⟩) (by simp)
              simp [enumL, DM, DMs, CM, CMs, HpOK, LowOK, Pg.cells, slP, isI, hOf, upd, flat_I, kf]
            · have c1 : (((N ||| SS : Nat) : Int) == (N : Int)) = false := by simp only [beq_eq_false_iff_ne]; omega
              have c2 : (((N ||| SS : Nat) : Int) = (N : Int)) = False := eq_false (by omega)
              iterate 3 ((try (refine drv_sound (n := 12) (rs := _) Try.func33 mo rfl _ _ _ ?_; simp (maxSteps := 10000000) (maxDischargeDepth := 300) only [go_sem, Pg.cells, Ex.cells, St1.cells, isI, I64, Ex.cellsL_length, Ex.cellsL_get, St1.cellsL_length, St1.cellsL_get, c1, c2])); (try ((with_reducible refine And.intro ?_ ?_) <;> (repeat' with_reducible apply And.intro) <;> (try first | omega | (simp only [InK]; omega) | (intro k e; cases e; rfl) | (intro hguard; exact ⟨hguard, by simp only [InK]; omega⟩) | kernel_rfl))))
              refine again (N ||| SS) some [] _ ⟨hlt2, fun i hi => by rw [Nat.testBit_or, hN1 i hi, Bool.true_or], hst⟩ (by omega) ?_
              simp (maxSteps := 10000000) (maxDischargeDepth := 300) only [go_sem, TmOK, DM, DMs, CM, CMs, forall_eq, exists_eq_left, Mq, HpOK, LowOK, Pg.cells, Ex.cells, St1.cells, isI, I64, Ex.cellsL_length, Ex.cellsL_get, St1.cellsL_length, St1.cellsL_get]
              try simp
          · have hlt : i < ws.length := by
              rcases Nat.lt_or_ge i ws.length with h | h
              · exact h
              · rw [List.getD_eq_getElem?_getD, List.getElem?_eq_none h] at hi; cases hi
            rw [accN_bit, hi]; simp [hlt]
          · rw [accN_bit, Bool.and_eq_true] at hi
            exact a i hi.2
          · simp (maxSteps := 10000000) (maxDischargeDepth := 300) only [go_sem, TmOK, DM, DMs, CM, CMs, forall_eq, exists_eq_left, Mq, HpOK, LowOK, Pg.cells, Ex.cells, St1.cells, isI, I64, Ex.cellsL_length, Ex.cellsL_get, St1.cellsL_length, St1.cellsL_get]
            try simp
      · simp (maxSteps := 10000000) (maxDischargeDepth := 300) only [go_sem, TmOK, DM, DMs, CM, CMs, forall_eq, exists_eq_left, Mq, HpOK, LowOK, Pg.cells, Ex.cells, St1.cells, isI, I64, Ex.cellsL_length, Ex.cellsL_get, St1.cellsL_length, St1.cellsL_get, boolsD, BC, accN]
        try simp
    · have hb1 : ((ws.length : Int) != ((p.vars.length + p.arrays.length : Nat) : Int)) = true := by simp only [bne_iff_ne]; omega
      have hb2 : ((ws.length : Int) = ((p.vars.length + p.arrays.length : Nat) : Int)) = False := eq_false (by omega)
      obtain ⟨vs, ar, bd⟩ := p
      simp only at hb1 hb2 hce
      refine dc_of_go Try.func33 rfl (by simp) ?_
      refine drv_sound (n := 12) (rs := _) Try.func33 mo rfl none _ _ ?_
      simp (maxSteps := 10000000) (maxDischargeDepth := 300) only [go_sem, Pg.cells, Ex.cells, St1.cells, isI, I64, Ex.cellsL_length, Ex.cellsL_get, St1.cellsL_length, St1.cellsL_get]
      iterate 1 ((try (refine drv_sound (n := 12) (rs := _) Try.func33 mo rfl _ _ _ ?_; simp (maxSteps := 10000000) (maxDischargeDepth := 300) only [go_sem, Pg.cells, Ex.cells, St1.cells, isI, I64, Ex.cellsL_length, Ex.cellsL_get, St1.cellsL_length, St1.cellsL_get])); (try ((with_reducible refine And.intro ?_ ?_) <;> (repeat' with_reducible apply And.intro) <;> (try first | omega | (simp only [InK]; omega) | (intro k e; cases e; rfl) | (intro hguard; exact ⟨hguard, by simp only [InK]; omega⟩) | kernel_rfl))))
      refine XK.plain hv ok44 ?_ (hbT ())
      iterate 2 ((try (refine drv_sound (n := 12) (rs := _) Try.func33 mo rfl _ _ _ ?_; simp (maxSteps := 10000000) (maxDischargeDepth := 300) only [go_sem, Pg.cells, Ex.cells, St1.cells, isI, I64, Ex.cellsL_length, Ex.cellsL_get, St1.cellsL_length, St1.cellsL_get, boolsD, BC])); (try ((with_reducible refine And.intro ?_ ?_) <;> (repeat' with_reducible apply And.intro) <;> (try first | omega | (simp only [InK]; omega) | (intro k e; cases e; rfl) | (intro hguard; exact ⟨hguard, by simp only [InK]; omega⟩) | kernel_rfl))))
      refine XK.gplain 3 false true (fun _ => hce) ok70 ?_ (hbT ())
      generalize ((vs.length + ar.length : Nat) : Int) = cc at *
      iterate 3 ((try (refine drv_sound (n := 12) (rs := _) Try.func33 mo rfl _ _ _ ?_; simp (maxSteps := 10000000) (maxDischargeDepth := 300) only [go_sem, Pg.cells, Ex.cells, St1.cells, isI, I64, Ex.cellsL_length, Ex.cellsL_get, St1.cellsL_length, St1.cellsL_get, boolsD, BC, hb1, hb2])); (try ((with_reducible refine And.intro ?_ ?_) <;> (repeat' with_reducible apply And.intro) <;> (try first | omega | (simp only [InK]; omega) | (intro k e; cases e; rfl) | (intro hguard; exact ⟨hguard, by simp only [InK]; omega⟩) | kernel_rfl))))
      exact bad _ (by rw [hq]; simpa using hwl)
end Go.Proofs.Ytclgjiffpijgmaa.CtD

namespace Go.Proofs.Ytclgjiffpijgmaa.CtD
open Go Go.CT CtF CtR

def usesL (nv : Nat) : Nat → Ex → List Bool → List Bool
  | 0, _, L => L
  | d + 1, .mk k v ks, L => ks.foldl (fun L x => usesL nv d x L) (if k = 2 then L.set v.toNat true else if k = 3 then L.set (nv + v.toNat) true else L)
theorem usesL_len (nv : Nat) : ∀ (d : Nat) (e : Ex) (L : List Bool), (usesL nv d e L).length = L.length
  | 0, _, L => rfl
  | d + 1, .mk k v ks, L => by
    have gen : ∀ (ks : List Ex) (L : List Bool), (ks.foldl (fun L x => usesL nv d x L) L).length = L.length := fun ks => by
      induction ks with
      | nil => intro L; rfl
      | cons a r ih => intro L; rw [List.foldl_cons, ih, usesL_len nv d a L]
    simp only [usesL]
    rw [gen]
    split
    · simp
    · split <;> simp

set_option maxHeartbeats 8000000 in
set_option maxRecDepth 10000 in
theorem usesS (p : Pg) (hn : p.vars.length + p.arrays.length ≤ 14) : ∀ (d : Nat) (e : Ex) (L : List Bool), CtR.shape p d e = true → L.length = p.vars.length + p.arrays.length →
    DC Try.prog 119 [.agg p.cells, .agg e.cells, .c (.msl 0 1 0 L.length)] [some (boolsC L)] (fun r h => r = .tup [] ∧ h = [some (boolsC (usesL p.vars.length d e L))]) := by
  have hmx := mx_eq
  intro d
  induction d with
  | zero => intro e L h; simp [CtR.shape] at h
  | succ d ih =>
    intro e L hsh hL
    obtain ⟨k, v, ks⟩ := e
    obtain ⟨g1, g2, g3⟩ := shape_succ hsh
    obtain ⟨hl3, hla, hv0, hv1⟩ := fits_len g1
    have hlim : k = 2 → v < p.vars.length := fun hk => by subst hk; simpa [limit] using hv1
    have hlim3 : k = 3 → v < p.arrays.length := fun hk => by subst hk; simpa [limit] using hv1
    obtain ⟨vs, ar, bd⟩ := p
    have hn : vs.length + ar.length ≤ 14 := hn
    have hL : L.length = vs.length + ar.length := hL
    simp only at hlim hlim3 ih
    generalize hR : (fun (r : D) (h : List (Option (List C))) => r = .tup [] ∧ h = [some (boolsC (usesL vs.length (d + 1) (.mk k v ks) L))]) = R
    obtain ⟨M, hM⟩ : ∃ M, M = (if k = 2 then L.set v.toNat true else if k = 3 then L.set (vs.length + v.toNat) true else L) := ⟨_, rfl⟩
    have hMl : M.length = L.length := by rw [hM]; split <;> (try split) <;> simp
    have hres : usesL vs.length (d + 1) (.mk k v ks) L = ks.foldl (fun L x => usesL vs.length d x L) M := by rw [hM]; rfl
    have hfl : ∀ i, ((ks.take i).foldl (fun L x => usesL vs.length d x L) M).length = L.length := fun i => by
      rw [← hMl]
      generalize ks.take i = l
      have gen : ∀ (l : List Ex) (L : List Bool), (l.foldl (fun L x => usesL vs.length d x L) L).length = L.length := fun l => by
        induction l with
        | nil => intro L; rfl
        | cons a r ih => intro L; rw [List.foldl_cons, ih, usesL_len]
      exact gen l M
    have hfs : ∀ i x, ks[i]? = some x → (ks.take (i + 1)).foldl (fun L x => usesL vs.length d x L) M = usesL vs.length d x ((ks.take i).foldl (fun L x => usesL vs.length d x L) M) := fun i x h => by
      rw [List.take_add_one, h]; simp
    have hbl := boolsC_len L
    have hMb : boolsC M = boolsC (if k = 2 then L.set v.toNat true else if k = 3 then L.set (vs.length + v.toNat) true else L) := by rw [hM]
    rw [hres] at hR
    have key : k = 2 ∨ k = 3 ∨ (k ≠ 2 ∧ k ≠ 3) := by omega
    rcases key with hk | hk | ⟨hk2, hk3⟩
    · have hv2 := hlim hk
      have e2 : (k == 2) = true := by simp [hk]
      have f2 : (k = 2) = True := by simp [hk]
      have e3 : (k == 3) = false := by simp [hk]
      have f3 : (k = 3) = False := by simp [hk]
      refine dc_of_go Try.func119 rfl (by simp) ?_
      refine drv_sound (n := 12) (rs := _) Try.func119 mo rfl none _ _ ?_
      simp (maxSteps := 10000000) (maxDischargeDepth := 300) only [go_sem, Pg.cells, Ex.cells, St1.cells, isI, I64, Ex.cellsL_length, Ex.cellsL_get, St1.cellsL_length, St1.cellsL_get, e2, f2, e3, f3]
      iterate 4 ((try (refine drv_sound (n := 12) (rs := _) Try.func119 mo rfl _ _ _ ?_; simp (maxSteps := 10000000) (maxDischargeDepth := 300) only [go_sem, Pg.cells, Ex.cells, St1.cells, isI, I64, Ex.cellsL_length, Ex.cellsL_get, St1.cellsL_length, St1.cellsL_get, e2, f2, e3, f3, boolsC_set, hbl])); (try ((with_reducible refine And.intro ?_ ?_) <;> (repeat' with_reducible apply And.intro) <;> (try first | omega | (simp only [InK]; omega) | (intro k e; cases e; rfl) | (intro hguard; exact ⟨hguard, by simp only [InK]; omega⟩) | kernel_rfl))))
      refine Go.loopQ (fun i : Nat => [(2, .c (.msl 0 1 0 L.length)), (3, .c (.ptr 1 0)), (4, .c (.ptr 65 0)), (6, DI .i64 i)])
        (fun i => [(0, some (boolsC ((ks.take i).foldl (fun L x => usesL vs.length d x L) M))), (1, some (Pg.cells ⟨vs, ar, bd⟩)), (65, some (Ex.cells (.mk k v ks)))])
        4096 (fun i => i ≤ ks.length) (fun i => ks.length - i) ?_ 0 some [] _ (Nat.zero_le _) ?_
      · intro i hi again
        have hfi := hfl i
        rcases Nat.lt_or_ge i ks.length with hlt | hge
        · obtain ⟨⟨k', v', ks'⟩, hx⟩ : ∃ x, ks[i]? = some x := ⟨ks[i], by simp [hlt]⟩
          have hsc := hfs i _ hx
          generalize (ks.take i).foldl (fun L x => usesL vs.length d x L) M = acc at *
          have hih := ih (.mk k' v' ks') acc (g2 _ (List.mem_of_getElem? hx)) (by omega)
          rw [hfi] at hih
          refine drv_sound (n := 12) (rs := _) Try.func119 mo rfl none _ _ ?_
          simp (maxSteps := 10000000) (maxDischargeDepth := 300) only [go_sem, Pg.cells, Ex.cells, St1.cells, isI, I64, Ex.cellsL_length, Ex.cellsL_get, St1.cellsL_length, St1.cellsL_get, hx, hlt]
          iterate 2 ((try (refine drv_sound (n := 12) (rs := _) Try.func119 mo rfl _ _ _ ?_; simp (maxSteps := 10000000) (maxDischargeDepth := 300) only [go_sem, Pg.cells, Ex.cells, St1.cells, isI, I64, Ex.cellsL_length, Ex.cellsL_get, St1.cellsL_length, St1.cellsL_get, hx, hlt])); (try ((with_reducible refine And.intro ?_ ?_) <;> (repeat' with_reducible apply And.intro) <;> (try first | omega | (simp only [InK]; omega) | (intro k e; cases e; rfl) | (intro hguard; exact ⟨hguard, by simp only [InK]; omega⟩) | kernel_rfl))))
          refine XK.callG [0] hih ok119 (hhp_one (by simp [hOf, upd, boolsC_ren])) (hbT ()) (fun d h' ⟨_, e⟩ => by subst e; simp) ?_ (fun _ => ⟨by kernel_rfl, _, _, ⟨rfl, rfl⟩, by simp⟩)
          rintro _ _ ⟨rfl, rfl⟩ _
          iterate 3 ((try (refine drv_sound (n := 12) (rs := _) Try.func119 mo rfl _ _ _ ?_; simp (maxSteps := 10000000) (maxDischargeDepth := 300) only [go_sem, Pg.cells, Ex.cells, St1.cells, isI, I64, Ex.cellsL_length, Ex.cellsL_get, St1.cellsL_length, St1.cellsL_get, hx, hlt, boolsC_ren])); (try ((with_reducible refine And.intro ?_ ?_) <;> (repeat' with_reducible apply And.intro) <;> (try first | omega | (simp only [InK]; omega) | (intro k e; cases e; rfl) | (intro hguard; exact ⟨hguard, by simp only [InK]; omega⟩) | kernel_rfl))))
          refine again (i + 1) some [] _ hlt (by omega) ?_
          simp (maxSteps := 10000000) (maxDischargeDepth := 300) only [go_sem, TmOK, DM, DMs, CM, CMs, forall_eq, exists_eq_left, Mq, HpOK, LowOK, Pg.cells, Ex.cells, St1.cells, isI, I64, Ex.cellsL_length, Ex.cellsL_get, St1.cellsL_length, St1.cellsL_get, hsc]
          simp
          exact CMs.kf (boolsC_kf _)
        · have hn2 : ¬ i < ks.length := by omega
          obtain rfl : i = ks.length := by omega
          refine drv_sound (n := 12) (rs := _) Try.func119 mo rfl none _ _ ?_
          simp (maxSteps := 10000000) (maxDischargeDepth := 300) only [go_sem, Pg.cells, Ex.cells, St1.cells, isI, I64, Ex.cellsL_length, Ex.cellsL_get, St1.cellsL_length, St1.cellsL_get, hn2, List.take_length]
          iterate 2 ((try (refine drv_sound (n := 12) (rs := _) Try.func119 mo rfl _ _ _ ?_; simp (maxSteps := 10000000) (maxDischargeDepth := 300) only [go_sem, Pg.cells, Ex.cells, St1.cells, isI, I64, Ex.cellsL_length, Ex.cellsL_get, St1.cellsL_length, St1.cellsL_get, hn2, List.take_length])); (try ((with_reducible refine And.intro ?_ ?_) <;> (repeat' with_reducible apply And.intro) <;> (try first | omega | (simp only [InK]; omega) | (intro k e; cases e; rfl) | (intro hguard; exact ⟨hguard, by simp only [InK]; omega⟩) | kernel_rfl))))
          refine RetOb.ofQ some [] (.tup []) [some (boolsC (ks.foldl (fun L x => usesL vs.length d x L) M))] ?_ (by rw [← hR]; exact ⟨rfl, rfl⟩) (by simp)
          simp [enumL, DM, DMs, HpOK, LowOK, hOf, upd]
          exact CMs.kf (boolsC_kf _)
      · simp (maxSteps := 10000000) (maxDischargeDepth := 300) only [go_sem, TmOK, DM, DMs, CM, CMs, forall_eq, exists_eq_left, Mq, HpOK, LowOK, Pg.cells, Ex.cells, St1.cells, isI, I64, Ex.cellsL_length, Ex.cellsL_get, St1.cellsL_length, St1.cellsL_get, List.take_zero, List.foldl_nil, hM, f2, if_true]
        simp
        exact CMs.kf (boolsC_kf _)
    · have hv2 := hlim3 hk
      have e2 : (k == 2) = false := by simp [hk]
      have f2 : (k = 2) = False := by simp [hk]
      have e3 : (k == 3) = true := by simp [hk]
      have f3 : (k = 3) = True := by simp [hk]
      have hpos : ((vs.length : Int) + v).toNat = vs.length + v.toNat := by omega
      refine dc_of_go Try.func119 rfl (by simp) ?_
      refine drv_sound (n := 12) (rs := _) Try.func119 mo rfl none _ _ ?_
      simp (maxSteps := 10000000) (maxDischargeDepth := 300) only [go_sem, Pg.cells, Ex.cells, St1.cells, isI, I64, Ex.cellsL_length, Ex.cellsL_get, St1.cellsL_length, St1.cellsL_get, e2, f2, e3, f3]
      iterate 4 ((try (refine drv_sound (n := 12) (rs := _) Try.func119 mo rfl _ _ _ ?_; simp (maxSteps := 10000000) (maxDischargeDepth := 300) only [go_sem, Pg.cells, Ex.cells, St1.cells, isI, I64, Ex.cellsL_length, Ex.cellsL_get, St1.cellsL_length, St1.cellsL_get, e2, f2, e3, f3, boolsC_set, hbl, hpos])); (try ((with_reducible refine And.intro ?_ ?_) <;> (repeat' with_reducible apply And.intro) <;> (try first | omega | (simp only [InK]; omega) | (intro k e; cases e; rfl) | (intro hguard; exact ⟨hguard, by simp only [InK]; omega⟩) | kernel_rfl))))
      refine Go.loopQ (fun i : Nat => [(2, .c (.msl 0 1 0 L.length)), (3, .c (.ptr 1 0)), (4, .c (.ptr 65 0)), (6, DI .i64 i)])
        (fun i => [(0, some (boolsC ((ks.take i).foldl (fun L x => usesL vs.length d x L) M))), (1, some (Pg.cells ⟨vs, ar, bd⟩)), (65, some (Ex.cells (.mk k v ks)))])
        4096 (fun i => i ≤ ks.length) (fun i => ks.length - i) ?_ 0 some [] _ (Nat.zero_le _) ?_
      · intro i hi again
        have hfi := hfl i
        rcases Nat.lt_or_ge i ks.length with hlt | hge
        · obtain ⟨⟨k', v', ks'⟩, hx⟩ : ∃ x, ks[i]? = some x := ⟨ks[i], by simp [hlt]⟩
          have hsc := hfs i _ hx
          generalize (ks.take i).foldl (fun L x => usesL vs.length d x L) M = acc at *
          have hih := ih (.mk k' v' ks') acc (g2 _ (List.mem_of_getElem? hx)) (by omega)
          rw [hfi] at hih
          refine drv_sound (n := 12) (rs := _) Try.func119 mo rfl none _ _ ?_
          simp (maxSteps := 10000000) (maxDischargeDepth := 300) only [go_sem, Pg.cells, Ex.cells, St1.cells, isI, I64, Ex.cellsL_length, Ex.cellsL_get, St1.cellsL_length, St1.cellsL_get, hx, hlt]
          iterate 2 ((try (refine drv_sound (n := 12) (rs := _) Try.func119 mo rfl _ _ _ ?_; simp (maxSteps := 10000000) (maxDischargeDepth := 300) only [go_sem, Pg.cells, Ex.cells, St1.cells, isI, I64, Ex.cellsL_length, Ex.cellsL_get, St1.cellsL_length, St1.cellsL_get, hx, hlt])); (try ((with_reducible refine And.intro ?_ ?_) <;> (repeat' with_reducible apply And.intro) <;> (try first | omega | (simp only [InK]; omega) | (intro k e; cases e; rfl) | (intro hguard; exact ⟨hguard, by simp only [InK]; omega⟩) | kernel_rfl))))
          refine XK.callG [0] hih ok119 (hhp_one (by simp [hOf, upd, boolsC_ren])) (hbT ()) (fun d h' ⟨_, e⟩ => by subst e; simp) ?_ (fun _ => ⟨by kernel_rfl, _, _, ⟨rfl, rfl⟩, by simp⟩)
          rintro _ _ ⟨rfl, rfl⟩ _
          iterate 3 ((try (refine drv_sound (n := 12) (rs := _) Try.func119 mo rfl _ _ _ ?_; simp (maxSteps := 10000000) (maxDischargeDepth := 300) only [go_sem, Pg.cells, Ex.cells, St1.cells, isI, I64, Ex.cellsL_length, Ex.cellsL_get, St1.cellsL_length, St1.cellsL_get, hx, hlt, boolsC_ren])); (try ((with_reducible refine And.intro ?_ ?_) <;> (repeat' with_reducible apply And.intro) <;> (try first | omega | (simp only [InK]; omega) | (intro k e; cases e; rfl) | (intro hguard; exact ⟨hguard, by simp only [InK]; omega⟩) | kernel_rfl))))
          refine again (i + 1) some [] _ hlt (by omega) ?_
          simp (maxSteps := 10000000) (maxDischargeDepth := 300) only [go_sem, TmOK, DM, DMs, CM, CMs, forall_eq, exists_eq_left, Mq, HpOK, LowOK, Pg.cells, Ex.cells, St1.cells, isI, I64, Ex.cellsL_length, Ex.cellsL_get, St1.cellsL_length, St1.cellsL_get, hsc]
          simp
          exact CMs.kf (boolsC_kf _)
        · have hn2 : ¬ i < ks.length := by omega
          obtain rfl : i = ks.length := by omega
          refine drv_sound (n := 12) (rs := _) Try.func119 mo rfl none _ _ ?_
          simp (maxSteps := 10000000) (maxDischargeDepth := 300) only [go_sem, Pg.cells, Ex.cells, St1.cells, isI, I64, Ex.cellsL_length, Ex.cellsL_get, St1.cellsL_length, St1.cellsL_get, hn2, List.take_length]
          iterate 2 ((try (refine drv_sound (n := 12) (rs := _) Try.func119 mo rfl _ _ _ ?_; simp (maxSteps := 10000000) (maxDischargeDepth := 300) only [go_sem, Pg.cells, Ex.cells, St1.cells, isI, I64, Ex.cellsL_length, Ex.cellsL_get, St1.cellsL_length, St1.cellsL_get, hn2, List.take_length])); (try ((with_reducible refine And.intro ?_ ?_) <;> (repeat' with_reducible apply And.intro) <;> (try first | omega | (simp only [InK]; omega) | (intro k e; cases e; rfl) | (intro hguard; exact ⟨hguard, by simp only [InK]; omega⟩) | kernel_rfl))))
          refine RetOb.ofQ some [] (.tup []) [some (boolsC (ks.foldl (fun L x => usesL vs.length d x L) M))] ?_ (by rw [← hR]; exact ⟨rfl, rfl⟩) (by simp)
          simp [enumL, DM, DMs, HpOK, LowOK, hOf, upd]
          exact CMs.kf (boolsC_kf _)
      · simp (maxSteps := 10000000) (maxDischargeDepth := 300) only [go_sem, TmOK, DM, DMs, CM, CMs, forall_eq, exists_eq_left, Mq, HpOK, LowOK, Pg.cells, Ex.cells, St1.cells, isI, I64, Ex.cellsL_length, Ex.cellsL_get, St1.cellsL_length, St1.cellsL_get, List.take_zero, List.foldl_nil, hM, f2, f3, if_true, if_false]
        simp
        exact CMs.kf (boolsC_kf _)
    · have e2 : (k == 2) = false := by simp [hk2]
      have e3 : (k == 3) = false := by simp [hk3]
      refine dc_of_go Try.func119 rfl (by simp) ?_
      refine drv_sound (n := 12) (rs := _) Try.func119 mo rfl none _ _ ?_
      simp (maxSteps := 10000000) (maxDischargeDepth := 300) only [go_sem, Pg.cells, Ex.cells, St1.cells, isI, I64, Ex.cellsL_length, Ex.cellsL_get, St1.cellsL_length, St1.cellsL_get, hk2, hk3, e2, e3]
      iterate 4 ((try (refine drv_sound (n := 12) (rs := _) Try.func119 mo rfl _ _ _ ?_; simp (maxSteps := 10000000) (maxDischargeDepth := 300) only [go_sem, Pg.cells, Ex.cells, St1.cells, isI, I64, Ex.cellsL_length, Ex.cellsL_get, St1.cellsL_length, St1.cellsL_get, hk2, hk3, e2, e3])); (try ((with_reducible refine And.intro ?_ ?_) <;> (repeat' with_reducible apply And.intro) <;> (try first | omega | (simp only [InK]; omega) | (intro k e; cases e; rfl) | (intro hguard; exact ⟨hguard, by simp only [InK]; omega⟩) | kernel_rfl))))
      refine Go.loopQ (fun i : Nat => [(2, .c (.msl 0 1 0 L.length)), (3, .c (.ptr 1 0)), (4, .c (.ptr 65 0)), (6, DI .i64 i)])
        (fun i => [(0, some (boolsC ((ks.take i).foldl (fun L x => usesL vs.length d x L) M))), (1, some (Pg.cells ⟨vs, ar, bd⟩)), (65, some (Ex.cells (.mk k v ks)))])
        4096 (fun i => i ≤ ks.length) (fun i => ks.length - i) ?_ 0 some [] _ (Nat.zero_le _) ?_
      · intro i hi again
        have hfi := hfl i
        rcases Nat.lt_or_ge i ks.length with hlt | hge
        · obtain ⟨⟨k', v', ks'⟩, hx⟩ : ∃ x, ks[i]? = some x := ⟨ks[i], by simp [hlt]⟩
          have hsc := hfs i _ hx
          generalize (ks.take i).foldl (fun L x => usesL vs.length d x L) M = acc at *
          have hih := ih (.mk k' v' ks') acc (g2 _ (List.mem_of_getElem? hx)) (by omega)
          rw [hfi] at hih
          refine drv_sound (n := 12) (rs := _) Try.func119 mo rfl none _ _ ?_
          simp (maxSteps := 10000000) (maxDischargeDepth := 300) only [go_sem, Pg.cells, Ex.cells, St1.cells, isI, I64, Ex.cellsL_length, Ex.cellsL_get, St1.cellsL_length, St1.cellsL_get, hx, hlt]
          iterate 2 ((try (refine drv_sound (n := 12) (rs := _) Try.func119 mo rfl _ _ _ ?_; simp (maxSteps := 10000000) (maxDischargeDepth := 300) only [go_sem, Pg.cells, Ex.cells, St1.cells, isI, I64, Ex.cellsL_length, Ex.cellsL_get, St1.cellsL_length, St1.cellsL_get, hx, hlt])); (try ((with_reducible refine And.intro ?_ ?_) <;> (repeat' with_reducible apply And.intro) <;> (try first | omega | (simp only [InK]; omega) | (intro k e; cases e; rfl) | (intro hguard; exact ⟨hguard, by simp only [InK]; omega⟩) | kernel_rfl))))
          refine XK.callG [0] hih ok119 (hhp_one (by simp [hOf, upd, boolsC_ren])) (hbT ()) (fun d h' ⟨_, e⟩ => by subst e; simp) ?_ (fun _ => ⟨by kernel_rfl, _, _, ⟨rfl, rfl⟩, by simp⟩)
          rintro _ _ ⟨rfl, rfl⟩ _
          iterate 3 ((try (refine drv_sound (n := 12) (rs := _) Try.func119 mo rfl _ _ _ ?_; simp (maxSteps := 10000000) (maxDischargeDepth := 300) only [go_sem, Pg.cells, Ex.cells, St1.cells, isI, I64, Ex.cellsL_length, Ex.cellsL_get, St1.cellsL_length, St1.cellsL_get, hx, hlt, boolsC_ren])); (try ((with_reducible refine And.intro ?_ ?_) <;> (repeat' with_reducible apply And.intro) <;> (try first | omega | (simp only [InK]; omega) | (intro k e; cases e; rfl) | (intro hguard; exact ⟨hguard, by simp only [InK]; omega⟩) | kernel_rfl))))
          refine again (i + 1) some [] _ hlt (by omega) ?_
          simp (maxSteps := 10000000) (maxDischargeDepth := 300) only [go_sem, TmOK, DM, DMs, CM, CMs, forall_eq, exists_eq_left, Mq, HpOK, LowOK, Pg.cells, Ex.cells, St1.cells, isI, I64, Ex.cellsL_length, Ex.cellsL_get, St1.cellsL_length, St1.cellsL_get, hsc]
          simp
          exact CMs.kf (boolsC_kf _)
        · have hn2 : ¬ i < ks.length := by omega
          obtain rfl : i = ks.length := by omega
          refine drv_sound (n := 12) (rs := _) Try.func119 mo rfl none _ _ ?_
          simp (maxSteps := 10000000) (maxDischargeDepth := 300) only [go_sem, Pg.cells, Ex.cells, St1.cells, isI, I64, Ex.cellsL_length, Ex.cellsL_get, St1.cellsL_length, St1.cellsL_get, hn2, List.take_length]
          iterate 2 ((try (refine drv_sound (n := 12) (rs := _) Try.func119 mo rfl _ _ _ ?_; simp (maxSteps := 10000000) (maxDischargeDepth := 300) only [go_sem, Pg.cells, Ex.cells, St1.cells, isI, I64, Ex.cellsL_length, Ex.cellsL_get, St1.cellsL_length, St1.cellsL_get, hn2, List.take_length])); (try ((with_reducible refine And.intro ?_ ?_) <;> (repeat' with_reducible apply And.intro) <;> (try first | omega | (simp only [InK]; omega) | (intro k e; cases e; rfl) | (intro hguard; exact ⟨hguard, by simp only [InK]; omega⟩) | kernel_rfl))))
          refine RetOb.ofQ some [] (.tup []) [some (boolsC (ks.foldl (fun L x => usesL vs.length d x L) M))] ?_ (by rw [← hR]; exact ⟨rfl, rfl⟩) (by simp)
          simp [enumL, DM, DMs, HpOK, LowOK, hOf, upd]
          exact CMs.kf (boolsC_kf _)
      · simp (maxSteps := 10000000) (maxDischargeDepth := 300) only [go_sem, TmOK, DM, DMs, CM, CMs, forall_eq, exists_eq_left, Mq, HpOK, LowOK, Pg.cells, Ex.cells, St1.cells, isI, I64, Ex.cellsL_length, Ex.cellsL_get, St1.cellsL_length, St1.cellsL_get, List.take_zero, List.foldl_nil, hM, hk2, hk3, if_false]
        simp
        exact CMs.kf (boolsC_kf _)
end Go.Proofs.Ytclgjiffpijgmaa.CtD

namespace Go.Proofs.Ytclgjiffpijgmaa.CtD
open Go Go.CT CtF CtR

theorem usesS0 (p : Pg) (L : List Bool) : DC Try.prog 119 [.agg p.cells, .agg (Ex.cells (.mk 0 0 [])), .c (.msl 0 1 0 L.length)] [some (boolsC L)] (fun r h => r = .tup [] ∧ h = [some (boolsC L)]) := by
  obtain ⟨vs, ar, bd⟩ := p
  generalize hR : (fun (r : D) (h : List (Option (List C))) => r = .tup [] ∧ h = [some (boolsC L)]) = R
  refine dc_of_go Try.func119 rfl (by simp) ?_
  refine drv_sound (n := 12) (rs := _) Try.func119 mo rfl none _ _ ?_
  simp (maxSteps := 10000000) (maxDischargeDepth := 300) only [go_sem, Pg.cells, Ex.cells, St1.cells, isI, I64, Ex.cellsL_length, Ex.cellsL_get, St1.cellsL_length, St1.cellsL_get, Ex.cellsL, Int.natCast_zero, Int.reduceBEq, Int.reduceEq]
  iterate 3 ((try (refine drv_sound (n := 12) (rs := _) Try.func119 mo rfl _ _ _ ?_; simp (maxSteps := 10000000) (maxDischargeDepth := 300) only [go_sem, Pg.cells, Ex.cells, St1.cells, isI, I64, Ex.cellsL_length, Ex.cellsL_get, St1.cellsL_length, St1.cellsL_get, Ex.cellsL, Int.natCast_zero, Int.reduceBEq, Int.reduceEq, List.length_nil])); (try ((with_reducible refine And.intro ?_ ?_) <;> (repeat' with_reducible apply And.intro) <;> (try first | omega | (simp only [InK]; omega) | (intro k e; cases e; rfl) | (intro hguard; exact ⟨hguard, by simp only [InK]; omega⟩) | kernel_rfl))))
  refine Go.loop ?_
  have hz : ((0 : Int) < 0) = False := eq_false (by omega)
  refine drv_sound (n := 12) (rs := _) Try.func119 mo rfl none _ _ ?_
  simp (maxSteps := 10000000) (maxDischargeDepth := 300) only [go_sem, Pg.cells, Ex.cells, St1.cells, isI, I64, Ex.cellsL_length, Ex.cellsL_get, St1.cellsL_length, St1.cellsL_get, Ex.cellsL, Int.natCast_zero, hz, List.length_nil]
  iterate 2 ((try (refine drv_sound (n := 12) (rs := _) Try.func119 mo rfl _ _ _ ?_; simp (maxSteps := 10000000) (maxDischargeDepth := 300) only [go_sem, Pg.cells, Ex.cells, St1.cells, isI, I64, Ex.cellsL_length, Ex.cellsL_get, St1.cellsL_length, St1.cellsL_get, Ex.cellsL, Int.natCast_zero, hz, List.length_nil])); (try ((with_reducible refine And.intro ?_ ?_) <;> (repeat' with_reducible apply And.intro) <;> (try first | omega | (simp only [InK]; omega) | (intro k e; cases e; rfl) | (intro hguard; exact ⟨hguard, by simp only [InK]; omega⟩) | kernel_rfl))))
  refine RetOb.ofQ some [] (.tup []) [some (boolsC L)] ?_ (by rw [← hR]; exact ⟨rfl, rfl⟩) (by simp)
  simp [enumL, DM, DMs, HpOK, LowOK, hOf, upd, hpL]
  exact CMs.kf (boolsC_kf _)
theorem usesE {p : Pg} (hn : p.vars.length + p.arrays.length ≤ 14) {e : Ex} (h : CtR.shape p 5 e = true ∨ e = .mk 0 0 []) (L : List Bool) (hL : L.length = p.vars.length + p.arrays.length) :
    DC Try.prog 119 [.agg p.cells, .agg e.cells, .c (.msl 0 1 0 L.length)] [some (boolsC L)] (fun r h => r = .tup [] ∧ h = [some (boolsC (usesL p.vars.length 5 e L))]) := by
  rcases h with h | rfl
  · exact usesS p hn 5 e L h hL
  · exact usesS0 p L

def needS (nv : Nat) (f : List St1 → List Bool → Bool × List Bool) (L : List Bool) : St1 → Bool × List Bool
  | .mk k t ix v c b e =>
    let y := if k = 1 then (L.getD t.toNat false, L) else if k = 2 then (L.getD (nv + t.toNat) false, L) else if k = 5 then (true, L) else ((f b L).1 || (f e (f b L).2).1, (f e (f b L).2).2)
    (y.1, if y.1 then usesL nv 5 ix (usesL nv 5 v y.2) else y.2)
def needL (nv : Nat) : Nat → List St1 → List Bool → Bool × List Bool
  | 0, _, L => (false, L)
  | d + 1, l, L => l.foldl (fun x s => (x.1 || (needS nv (needL nv d) x.2 s).1, (needS nv (needL nv d) x.2 s).2)) (false, L)
theorem needS_len {nv : Nat} {f : List St1 → List Bool → Bool × List Bool} (hf : ∀ l L, (f l L).2.length = L.length) (L : List Bool) (s : St1) : (needS nv f L s).2.length = L.length := by
  obtain ⟨k, t, ix, v, c, b, e⟩ := s
  simp only [needS]
  have h1 : ∀ y : Bool × List Bool, y.2.length = L.length → (if y.1 then usesL nv 5 ix (usesL nv 5 v y.2) else y.2).length = L.length := fun y h => by
    split
    · rw [usesL_len, usesL_len, h]
    · exact h
  apply h1
  by_cases a1 : k = 1
  · rw [if_pos a1]
  rw [if_neg a1]
  by_cases a2 : k = 2
  · rw [if_pos a2]
  rw [if_neg a2]
  by_cases a5 : k = 5
  · rw [if_pos a5]
  rw [if_neg a5]
  simp only [hf]
theorem needL_len (nv : Nat) : ∀ (d : Nat) (l : List St1) (L : List Bool), (needL nv d l L).2.length = L.length
  | 0, l, L => rfl
  | d + 1, l, L => by
    have gen : ∀ (l : List St1) (x : Bool × List Bool), (l.foldl (fun x s => (x.1 || (needS nv (needL nv d) x.2 s).1, (needS nv (needL nv d) x.2 s).2)) x).2.length = x.2.length := fun l => by
      induction l with
      | nil => intro x; rfl
      | cons a r ih => intro x; rw [List.foldl_cons, ih, needS_len (needL_len nv d)]
    exact gen l (false, L)
theorem boolsC_at {L : List Bool} {i : Nat} (h : i < L.length) : (boolsC L)[i]? = some (.v (.bool (L.getD i false))) := by
  unfold boolsC
  rw [List.getElem?_map, List.getD_eq_getElem?_getD, List.getElem?_eq_getElem h]; rfl

set_option maxHeartbeats 16000000 in
set_option maxRecDepth 10000 in
theorem needsS (p : Pg) (hn : p.vars.length + p.arrays.length ≤ 14) : ∀ (d : Nat) (l : List St1) (L : List Bool), (∀ s ∈ l, stmtOK p d s = true) → lsize d l ≤ 1000 → L.length = p.vars.length + p.arrays.length →
    DC Try.prog 75 [.agg p.cells, .c (.isl 11 (St1.cellsL l)), .c (.msl 0 1 0 L.length)] [some (boolsC L)] (fun r h => r = DB (needL p.vars.length d l L).1 ∧ h = [some (boolsC (needL p.vars.length d l L).2)]) := by
  have hmx := mx_eq
  intro d
  induction d with
  | zero =>
    intro l L hok hsz hL
    have hnil : l = [] := by
      cases l with
      | nil => rfl
      | cons a r => have := hok a (by simp); simp [stmtOK] at this
    subst hnil
    obtain ⟨vs, ar, bd⟩ := p
    simp only [needL]
    generalize hR : (fun (r : D) (h : List (Option (List C))) => r = DB false ∧ h = [some (boolsC L)]) = R
    refine dc_of_go Try.func75 rfl (by simp) ?_
    refine drv_sound (n := 12) (rs := _) Try.func75 mo rfl none _ _ ?_
    simp (maxSteps := 10000000) (maxDischargeDepth := 300) only [go_sem, Pg.cells, Ex.cells, St1.cells, isI, I64, Ex.cellsL_length, Ex.cellsL_get, St1.cellsL_length, St1.cellsL_get, St1.cellsL, Int.natCast_zero]
    iterate 2 ((try (refine drv_sound (n := 12) (rs := _) Try.func75 mo rfl _ _ _ ?_; simp (maxSteps := 10000000) (maxDischargeDepth := 300) only [go_sem, Pg.cells, Ex.cells, St1.cells, isI, I64, Ex.cellsL_length, Ex.cellsL_get, St1.cellsL_length, St1.cellsL_get, St1.cellsL, Int.natCast_zero, List.length_nil])); (try ((with_reducible refine And.intro ?_ ?_) <;> (repeat' with_reducible apply And.intro) <;> (try first | omega | (simp only [InK]; omega) | (intro k e; cases e; rfl) | (intro hguard; exact ⟨hguard, by simp only [InK]; omega⟩) | kernel_rfl))))
    refine Go.loop ?_
    have hz : ((0 : Int) < 0) = False := eq_false (by omega)
    refine drv_sound (n := 12) (rs := _) Try.func75 mo rfl none _ _ ?_
    simp (maxSteps := 10000000) (maxDischargeDepth := 300) only [go_sem, Pg.cells, Ex.cells, St1.cells, isI, I64, Ex.cellsL_length, Ex.cellsL_get, St1.cellsL_length, St1.cellsL_get, St1.cellsL, Int.natCast_zero, hz, List.length_nil]
    iterate 2 ((try (refine drv_sound (n := 12) (rs := _) Try.func75 mo rfl _ _ _ ?_; simp (maxSteps := 10000000) (maxDischargeDepth := 300) only [go_sem, Pg.cells, Ex.cells, St1.cells, isI, I64, Ex.cellsL_length, Ex.cellsL_get, St1.cellsL_length, St1.cellsL_get, St1.cellsL, Int.natCast_zero, hz, List.length_nil])); (try ((with_reducible refine And.intro ?_ ?_) <;> (repeat' with_reducible apply And.intro) <;> (try first | omega | (simp only [InK]; omega) | (intro k e; cases e; rfl) | (intro hguard; exact ⟨hguard, by simp only [InK]; omega⟩) | kernel_rfl))))
    refine RetOb.ofQ some [] (DB false) [some (boolsC L)] ?_ (by rw [← hR]; exact ⟨rfl, rfl⟩) (by simp)
    simp [enumL, hOf, DM, CM, HpOK, LowOK, upd, hpL]
    exact CMs.kf (boolsC_kf _)
  | succ d ih =>
    intro l L hok hsz hL
    have hsub := lsize_subs d l
    have hus := fun e h L hL => @usesE p hn e h L hL
    have hnl := fun l => needL_len p.vars.length d l
    obtain ⟨F, hF⟩ : ∃ F : Nat → Bool × List Bool, ∀ i, F i = (l.take i).foldl (fun x s => (x.1 || (needS p.vars.length (needL p.vars.length d) x.2 s).1, (needS p.vars.length (needL p.vars.length d) x.2 s).2)) (false, L) := ⟨_, fun _ => rfl⟩
    have hF0 : F 0 = (false, L) := by rw [hF]; simp
    have hFs : ∀ {i : Nat} {s : St1}, l[i]? = some s → F (i + 1) = ((F i).1 || (needS p.vars.length (needL p.vars.length d) (F i).2 s).1, (needS p.vars.length (needL p.vars.length d) (F i).2 s).2) := fun {i s} h => by
      rw [hF (i + 1), List.take_add_one, h, hF i]; simp
    have hFe : needL p.vars.length (d + 1) l L = F l.length := by rw [hF, List.take_length]; rfl
    have hFl : ∀ i, (F i).2.length = L.length := fun i => by
      rw [hF]
      have gen : ∀ (l : List St1) (x : Bool × List Bool), (l.foldl (fun x s => (x.1 || (needS p.vars.length (needL p.vars.length d) x.2 s).1, (needS p.vars.length (needL p.vars.length d) x.2 s).2)) x).2.length = x.2.length := fun l => by
        induction l with
        | nil => intro x; rfl
        | cons a r ih => intro x; rw [List.foldl_cons, ih, needS_len (needL_len _ d)]
      exact gen _ _
    clear hF
    rw [hFe]
    obtain ⟨vs, ar, bd⟩ := p
    have hn : vs.length + ar.length ≤ 14 := hn
    have hL : L.length = vs.length + ar.length := hL
    simp only at hus hnl hFs ih
    generalize hR : (fun (r : D) (h : List (Option (List C))) => r = DB (F l.length).1 ∧ h = [some (boolsC (F l.length).2)]) = R
    refine dc_of_go Try.func75 rfl (by simp) ?_
    refine drv_sound (n := 12) (rs := _) Try.func75 mo rfl none _ _ ?_
    simp (maxSteps := 10000000) (maxDischargeDepth := 300) only [go_sem, Pg.cells, Ex.cells, St1.cells, isI, I64, Ex.cellsL_length, Ex.cellsL_get, St1.cellsL_length, St1.cellsL_get]
    iterate 1 ((try (refine drv_sound (n := 12) (rs := _) Try.func75 mo rfl _ _ _ ?_; simp (maxSteps := 10000000) (maxDischargeDepth := 300) only [go_sem, Pg.cells, Ex.cells, St1.cells, isI, I64, Ex.cellsL_length, Ex.cellsL_get, St1.cellsL_length, St1.cellsL_get])); (try ((with_reducible refine And.intro ?_ ?_) <;> (repeat' with_reducible apply And.intro) <;> (try first | omega | (simp only [InK]; omega) | (intro k e; cases e; rfl) | (intro hguard; exact ⟨hguard, by simp only [InK]; omega⟩) | kernel_rfl))))
    refine Go.loopQ (fun i : Nat => [(1, .c (.isl 11 (St1.cellsL l))), (2, .c (.msl 0 1 0 L.length)), (3, .c (.ptr 1 0)), (7, DB (F i).1), (8, DI .i64 i)])
      (fun i => [(0, some (boolsC (F i).2)), (1, some (Pg.cells ⟨vs, ar, bd⟩))]) 4096 (fun i => i ≤ l.length) (fun i => l.length - i) ?_ 0 some [] _ (Nat.zero_le _) ?_
    · intro i hi again
      have hFi := hFl i
      rcases Nat.lt_or_ge i l.length with hlt | hge
      · obtain ⟨⟨k, t, ⟨ik, iv, iks⟩, ⟨vk, vv, vks⟩, c, b, e⟩, hx⟩ : ∃ x, l[i]? = some x := ⟨l[i], by simp [hlt]⟩
        have hsok := hok _ (List.mem_of_getElem? hx)
        have hex := exprs_of hsok
        have hbe := stmtOK_succ hsok
        have hhk := head_kind hbe.1
        simp only at hhk
        have a1 := tsum_succ (subs d) l i _ hx
        have a2 := tsum_le (subs d) l (i + 1)
        simp only [subs, St1.body, St1.els] at a1 a2
        have hs := hFs hx
        have hFn := hFl (i + 1)

        generalize F i = Fi at *
        obtain ⟨so, Li⟩ := Fi
        simp only at hFi hs
        have hat := @boolsC_at Li
        have key : k = 5 ∨ k = 1 ∨ k = 2 ∨ (k ≠ 5 ∧ k ≠ 1 ∧ k ≠ 2) := by omega
        rcases key with hk | hk | hk | ⟨hk5, hk1, hk2⟩
        · subst hk
          have hFE : F (i + 1) = (true, usesL vs.length 5 (.mk ik iv iks) (usesL vs.length 5 (.mk vk vv vks) Li)) := by rw [hs]; simp [needS]
          refine drv_sound (n := 12) (rs := _) Try.func75 mo rfl none _ _ ?_
          simp (maxSteps := 10000000) (maxDischargeDepth := 300) only [go_sem, Pg.cells, Ex.cells, St1.cells, isI, I64, Ex.cellsL_length, Ex.cellsL_get, St1.cellsL_length, St1.cellsL_get, List.cons_append, List.nil_append, hx, hlt, Int.reduceBEq, Int.reduceEq]
          iterate 9 ((try (refine drv_sound (n := 12) (rs := _) Try.func75 mo rfl _ _ _ ?_; simp (maxSteps := 10000000) (maxDischargeDepth := 300) only [go_sem, Pg.cells, Ex.cells, St1.cells, isI, I64, Ex.cellsL_length, Ex.cellsL_get, St1.cellsL_length, St1.cellsL_get, List.cons_append, List.nil_append, hx, hlt, Int.reduceBEq, Int.reduceEq])); (try ((with_reducible refine And.intro ?_ ?_) <;> (repeat' with_reducible apply And.intro) <;> (try first | omega | (simp only [InK]; omega) | (intro k e; cases e; rfl) | (intro hguard; exact ⟨hguard, by simp only [InK]; omega⟩) | kernel_rfl))))
          have u1 := hus _ hex.2 Li (by omega)
          have u2 := hus _ hex.1 (usesL vs.length 5 (.mk vk vv vks) Li) (by rw [usesL_len]; omega)
          rw [usesL_len] at u2
          rw [hFi] at u1 u2
          refine XK.callG [0] u1 ok119 (hhp_one (by simp [hOf, upd, boolsC_ren])) (hbT ()) (fun d h' ⟨_, e⟩ => by subst e; simp) ?_ (fun _ => ⟨by kernel_rfl, _, _, ⟨rfl, rfl⟩, by simp⟩)
          rintro _ _ ⟨rfl, rfl⟩ _
          iterate 3 ((try (refine drv_sound (n := 12) (rs := _) Try.func75 mo rfl _ _ _ ?_; simp (maxSteps := 10000000) (maxDischargeDepth := 300) only [go_sem, Pg.cells, Ex.cells, St1.cells, isI, I64, Ex.cellsL_length, Ex.cellsL_get, St1.cellsL_length, St1.cellsL_get, List.cons_append, List.nil_append, boolsC_ren])); (try ((with_reducible refine And.intro ?_ ?_) <;> (repeat' with_reducible apply And.intro) <;> (try first | omega | (simp only [InK]; omega) | (intro k e; cases e; rfl) | (intro hguard; exact ⟨hguard, by simp only [InK]; omega⟩) | kernel_rfl))))
          refine XK.callG [0] u2 ok119 (hhp_one (by simp [hOf, upd, boolsC_ren])) (hbT ()) (fun d h' ⟨_, e⟩ => by subst e; simp) ?_ (fun _ => ⟨by kernel_rfl, _, _, ⟨rfl, rfl⟩, by simp⟩)
          rintro _ _ ⟨rfl, rfl⟩ _
          cases so <;> (iterate 4 ((try (refine drv_sound (n := 12) (rs := _) Try.func75 mo rfl _ _ _ ?_; simp (maxSteps := 10000000) (maxDischargeDepth := 300) only [go_sem, Pg.cells, Ex.cells, St1.cells, isI, I64, Ex.cellsL_length, Ex.cellsL_get, St1.cellsL_length, St1.cellsL_get, List.cons_append, List.nil_append, boolsC_ren])); (try ((with_reducible refine And.intro ?_ ?_) <;> (repeat' with_reducible apply And.intro) <;> (try first | omega | (simp only [InK]; omega) | (intro k e; cases e; rfl) | (intro hguard; exact ⟨hguard, by simp only [InK]; omega⟩) | kernel_rfl)))))
          all_goals
            refine again (i + 1) some [] _ hlt (by omega) ?_
            rw [hFE]
            simp (maxSteps := 10000000) (maxDischargeDepth := 300) only [go_sem, TmOK, DM, DMs, CM, CMs, forall_eq, exists_eq_left, Mq, HpOK, LowOK, Pg.cells, Ex.cells, St1.cells, isI, I64, Ex.cellsL_length, Ex.cellsL_get, St1.cellsL_length, St1.cellsL_get, List.cons_append, List.nil_append]
            simp
            exact CMs.kf (boolsC_kf _)
        · subst hk
          have ht : 0 ≤ t ∧ t < (vs.length : Int) := by omega
          have hpos : ((vs.length : Int) + t).toNat = vs.length + t.toNat := by omega
          have hat := hat (i := t.toNat) (by omega)
          cases hq : Li.getD t.toNat false with
          | true =>
            rw [hq] at hat
            have hFE : F (i + 1) = (true, usesL vs.length 5 (.mk ik iv iks) (usesL vs.length 5 (.mk vk vv vks) Li)) := by rw [hs]; simp only [needS, hq, Int.reduceEq, if_true, if_false, Bool.or_true, Bool.or_false, Bool.false_eq_true]
            refine drv_sound (n := 12) (rs := _) Try.func75 mo rfl none _ _ ?_
            simp (maxSteps := 10000000) (maxDischargeDepth := 300) only [go_sem, Pg.cells, Ex.cells, St1.cells, isI, I64, Ex.cellsL_length, Ex.cellsL_get, St1.cellsL_length, St1.cellsL_get, List.cons_append, List.nil_append, hx, hlt, Int.reduceBEq, Int.reduceEq]
            iterate 9 ((try (refine drv_sound (n := 12) (rs := _) Try.func75 mo rfl _ _ _ ?_; simp (maxSteps := 10000000) (maxDischargeDepth := 300) only [go_sem, Pg.cells, Ex.cells, St1.cells, isI, I64, Ex.cellsL_length, Ex.cellsL_get, St1.cellsL_length, St1.cellsL_get, List.cons_append, List.nil_append, hx, hlt, Int.reduceBEq, Int.reduceEq, hat, hpos])); (try ((with_reducible refine And.intro ?_ ?_) <;> (repeat' with_reducible apply And.intro) <;> (try first | omega | (simp only [InK]; omega) | (intro k e; cases e; rfl) | (intro hguard; exact ⟨hguard, by simp only [InK]; omega⟩) | kernel_rfl))))
            have u1 := hus _ hex.2 Li (by omega)
            have u2 := hus _ hex.1 (usesL vs.length 5 (.mk vk vv vks) Li) (by rw [usesL_len]; omega)
            rw [usesL_len] at u2
            rw [hFi] at u1 u2
            refine XK.callG [0] u1 ok119 (hhp_one (by simp [hOf, upd, boolsC_ren])) (hbT ()) (fun d h' ⟨_, e⟩ => by subst e; simp) ?_ (fun _ => ⟨by kernel_rfl, _, _, ⟨rfl, rfl⟩, by simp⟩)
            rintro _ _ ⟨rfl, rfl⟩ _
            iterate 3 ((try (refine drv_sound (n := 12) (rs := _) Try.func75 mo rfl _ _ _ ?_; simp (maxSteps := 10000000) (maxDischargeDepth := 300) only [go_sem, Pg.cells, Ex.cells, St1.cells, isI, I64, Ex.cellsL_length, Ex.cellsL_get, St1.cellsL_length, St1.cellsL_get, List.cons_append, List.nil_append, boolsC_ren])); (try ((with_reducible refine And.intro ?_ ?_) <;> (repeat' with_reducible apply And.intro) <;> (try first | omega | (simp only [InK]; omega) | (intro k e; cases e; rfl) | (intro hguard; exact ⟨hguard, by simp only [InK]; omega⟩) | kernel_rfl))))
            refine XK.callG [0] u2 ok119 (hhp_one (by simp [hOf, upd, boolsC_ren])) (hbT ()) (fun d h' ⟨_, e⟩ => by subst e; simp) ?_ (fun _ => ⟨by kernel_rfl, _, _, ⟨rfl, rfl⟩, by simp⟩)
            rintro _ _ ⟨rfl, rfl⟩ _
            cases so <;> (iterate 4 ((try (refine drv_sound (n := 12) (rs := _) Try.func75 mo rfl _ _ _ ?_; simp (maxSteps := 10000000) (maxDischargeDepth := 300) only [go_sem, Pg.cells, Ex.cells, St1.cells, isI, I64, Ex.cellsL_length, Ex.cellsL_get, St1.cellsL_length, St1.cellsL_get, List.cons_append, List.nil_append, boolsC_ren])); (try ((with_reducible refine And.intro ?_ ?_) <;> (repeat' with_reducible apply And.intro) <;> (try first | omega | (simp only [InK]; omega) | (intro k e; cases e; rfl) | (intro hguard; exact ⟨hguard, by simp only [InK]; omega⟩) | kernel_rfl)))))
            all_goals
              refine again (i + 1) some [] _ hlt (by omega) ?_
              rw [hFE]
              simp (maxSteps := 10000000) (maxDischargeDepth := 300) only [go_sem, TmOK, DM, DMs, CM, CMs, forall_eq, exists_eq_left, Mq, HpOK, LowOK, Pg.cells, Ex.cells, St1.cells, isI, I64, Ex.cellsL_length, Ex.cellsL_get, St1.cellsL_length, St1.cellsL_get, List.cons_append, List.nil_append]
              simp
              exact CMs.kf (boolsC_kf _)
          | false =>
            rw [hq] at hat
            have hFE : F (i + 1) = (so, Li) := by rw [hs]; simp only [needS, hq, Int.reduceEq, if_true, if_false, Bool.or_true, Bool.or_false, Bool.false_eq_true]
            refine drv_sound (n := 12) (rs := _) Try.func75 mo rfl none _ _ ?_
            simp (maxSteps := 10000000) (maxDischargeDepth := 300) only [go_sem, Pg.cells, Ex.cells, St1.cells, isI, I64, Ex.cellsL_length, Ex.cellsL_get, St1.cellsL_length, St1.cellsL_get, List.cons_append, List.nil_append, hx, hlt, Int.reduceBEq, Int.reduceEq]
            cases so <;> (iterate 9 ((try (refine drv_sound (n := 12) (rs := _) Try.func75 mo rfl _ _ _ ?_; simp (maxSteps := 10000000) (maxDischargeDepth := 300) only [go_sem, Pg.cells, Ex.cells, St1.cells, isI, I64, Ex.cellsL_length, Ex.cellsL_get, St1.cellsL_length, St1.cellsL_get, List.cons_append, List.nil_append, hx, hlt, Int.reduceBEq, Int.reduceEq, hat, hpos])); (try ((with_reducible refine And.intro ?_ ?_) <;> (repeat' with_reducible apply And.intro) <;> (try first | omega | (simp only [InK]; omega) | (intro k e; cases e; rfl) | (intro hguard; exact ⟨hguard, by simp only [InK]; omega⟩) | kernel_rfl)))))
            all_goals
              refine again (i + 1) some [] _ hlt (by omega) ?_
              rw [hFE]
              simp (maxSteps := 10000000) (maxDischargeDepth := 300) only [go_sem, TmOK, DM, DMs, CM, CMs, forall_eq, exists_eq_left, Mq, HpOK, LowOK, Pg.cells, Ex.cells, St1.cells, isI, I64, Ex.cellsL_length, Ex.cellsL_get, St1.cellsL_length, St1.cellsL_get, List.cons_append, List.nil_append]
              simp
              exact CMs.kf (boolsC_kf _)
        · subst hk
          have ht : 0 ≤ t ∧ t < (ar.length : Int) := by omega
          have hpos : ((vs.length : Int) + t).toNat = vs.length + t.toNat := by omega
          have hat := hat (i := (vs.length + t.toNat)) (by omega)
          cases hq : Li.getD (vs.length + t.toNat) false with
          | true =>
            rw [hq] at hat
            have hFE : F (i + 1) = (true, usesL vs.length 5 (.mk ik iv iks) (usesL vs.length 5 (.mk vk vv vks) Li)) := by rw [hs]; simp only [needS, hq, Int.reduceEq, if_true, if_false, Bool.or_true, Bool.or_false, Bool.false_eq_true]
            refine drv_sound (n := 12) (rs := _) Try.func75 mo rfl none _ _ ?_
            simp (maxSteps := 10000000) (maxDischargeDepth := 300) only [go_sem, Pg.cells, Ex.cells, St1.cells, isI, I64, Ex.cellsL_length, Ex.cellsL_get, St1.cellsL_length, St1.cellsL_get, List.cons_append, List.nil_append, hx, hlt, Int.reduceBEq, Int.reduceEq]
            iterate 9 ((try (refine drv_sound (n := 12) (rs := _) Try.func75 mo rfl _ _ _ ?_; simp (maxSteps := 10000000) (maxDischargeDepth := 300) only [go_sem, Pg.cells, Ex.cells, St1.cells, isI, I64, Ex.cellsL_length, Ex.cellsL_get, St1.cellsL_length, St1.cellsL_get, List.cons_append, List.nil_append, hx, hlt, Int.reduceBEq, Int.reduceEq, hat, hpos])); (try ((with_reducible refine And.intro ?_ ?_) <;> (repeat' with_reducible apply And.intro) <;> (try first | omega | (simp only [InK]; omega) | (intro k e; cases e; rfl) | (intro hguard; exact ⟨hguard, by simp only [InK]; omega⟩) | kernel_rfl))))
            have u1 := hus _ hex.2 Li (by omega)
            have u2 := hus _ hex.1 (usesL vs.length 5 (.mk vk vv vks) Li) (by rw [usesL_len]; omega)
            rw [usesL_len] at u2
            rw [hFi] at u1 u2
            refine XK.callG [0] u1 ok119 (hhp_one (by simp [hOf, upd, boolsC_ren])) (hbT ()) (fun d h' ⟨_, e⟩ => by subst e; simp) ?_ (fun _ => ⟨by kernel_rfl, _, _, ⟨rfl, rfl⟩, by simp⟩)
            rintro _ _ ⟨rfl, rfl⟩ _
            iterate 3 ((try (refine drv_sound (n := 12) (rs := _) Try.func75 mo rfl _ _ _ ?_; simp (maxSteps := 10000000) (maxDischargeDepth := 300) only [go_sem, Pg.cells, Ex.cells, St1.cells, isI, I64, Ex.cellsL_length, Ex.cellsL_get, St1.cellsL_length, St1.cellsL_get, List.cons_append, List.nil_append, boolsC_ren])); (try ((with_reducible refine And.intro ?_ ?_) <;> (repeat' with_reducible apply And.intro) <;> (try first | omega | (simp only [InK]; omega) | (intro k e; cases e; rfl) | (intro hguard; exact ⟨hguard, by simp only [InK]; omega⟩) | kernel_rfl))))
            refine XK.callG [0] u2 ok119 (hhp_one (by simp [hOf, upd, boolsC_ren])) (hbT ()) (fun d h' ⟨_, e⟩ => by subst e; simp) ?_ (fun _ => ⟨by kernel_rfl, _, _, ⟨rfl, rfl⟩, by simp⟩)
            rintro _ _ ⟨rfl, rfl⟩ _
            cases so <;> (iterate 4 ((try (refine drv_sound (n := 12) (rs := _) Try.func75 mo rfl _ _ _ ?_; simp (maxSteps := 10000000) (maxDischargeDepth := 300) only [go_sem, Pg.cells, Ex.cells, St1.cells, isI, I64, Ex.cellsL_length, Ex.cellsL_get, St1.cellsL_length, St1.cellsL_get, List.cons_append, List.nil_append, boolsC_ren])); (try ((with_reducible refine And.intro ?_ ?_) <;> (repeat' with_reducible apply And.intro) <;> (try first | omega | (simp only [InK]; omega) | (intro k e; cases e; rfl) | (intro hguard; exact ⟨hguard, by simp only [InK]; omega⟩) | kernel_rfl)))))
            all_goals
              refine again (i + 1) some [] _ hlt (by omega) ?_
              rw [hFE]
              simp (maxSteps := 10000000) (maxDischargeDepth := 300) only [go_sem, TmOK, DM, DMs, CM, CMs, forall_eq, exists_eq_left, Mq, HpOK, LowOK, Pg.cells, Ex.cells, St1.cells, isI, I64, Ex.cellsL_length, Ex.cellsL_get, St1.cellsL_length, St1.cellsL_get, List.cons_append, List.nil_append]
              simp
              exact CMs.kf (boolsC_kf _)
          | false =>
            rw [hq] at hat
            have hFE : F (i + 1) = (so, Li) := by rw [hs]; simp only [needS, hq, Int.reduceEq, if_true, if_false, Bool.or_true, Bool.or_false, Bool.false_eq_true]
            refine drv_sound (n := 12) (rs := _) Try.func75 mo rfl none _ _ ?_
            simp (maxSteps := 10000000) (maxDischargeDepth := 300) only [go_sem, Pg.cells, Ex.cells, St1.cells, isI, I64, Ex.cellsL_length, Ex.cellsL_get, St1.cellsL_length, St1.cellsL_get, List.cons_append, List.nil_append, hx, hlt, Int.reduceBEq, Int.reduceEq]
            cases so <;> (iterate 9 ((try (refine drv_sound (n := 12) (rs := _) Try.func75 mo rfl _ _ _ ?_; simp (maxSteps := 10000000) (maxDischargeDepth := 300) only [go_sem, Pg.cells, Ex.cells, St1.cells, isI, I64, Ex.cellsL_length, Ex.cellsL_get, St1.cellsL_length, St1.cellsL_get, List.cons_append, List.nil_append, hx, hlt, Int.reduceBEq, Int.reduceEq, hat, hpos])); (try ((with_reducible refine And.intro ?_ ?_) <;> (repeat' with_reducible apply And.intro) <;> (try first | omega | (simp only [InK]; omega) | (intro k e; cases e; rfl) | (intro hguard; exact ⟨hguard, by simp only [InK]; omega⟩) | kernel_rfl)))))
            all_goals
              refine again (i + 1) some [] _ hlt (by omega) ?_
              rw [hFE]
              simp (maxSteps := 10000000) (maxDischargeDepth := 300) only [go_sem, TmOK, DM, DMs, CM, CMs, forall_eq, exists_eq_left, Mq, HpOK, LowOK, Pg.cells, Ex.cells, St1.cells, isI, I64, Ex.cellsL_length, Ex.cellsL_get, St1.cellsL_length, St1.cellsL_get, List.cons_append, List.nil_append]
              simp
              exact CMs.kf (boolsC_kf _)
        · have e5 : (k == 5) = false := by simp [hk5]
          have e1 : (k == 1) = false := by simp [hk1]
          have e2 : (k == 2) = false := by simp [hk2]
          have ihb := ih b Li hbe.2.1 (by omega) (by omega)
          have hn1 := hnl b Li
          have hnd : needS vs.length (needL vs.length d) Li (.mk k t (.mk ik iv iks) (.mk vk vv vks) c b e) = ((needL vs.length d b Li).1 || (needL vs.length d e (needL vs.length d b Li).2).1, if ((needL vs.length d b Li).1 || (needL vs.length d e (needL vs.length d b Li).2).1) then usesL vs.length 5 (.mk ik iv iks) (usesL vs.length 5 (.mk vk vv vks) (needL vs.length d e (needL vs.length d b Li).2).2) else (needL vs.length d e (needL vs.length d b Li).2).2) := by simp [needS, hk5, hk1, hk2]
          rw [hnd] at hs
          generalize needL vs.length d b Li = y1 at *
          obtain ⟨yb, L1⟩ := y1
          simp only at hn1 hs ihb
          have ihe := ih e L1 hbe.2.2 (by omega) (by omega)
          have hn2 := hnl e L1
          generalize needL vs.length d e L1 = y2 at *
          obtain ⟨ye, L2⟩ := y2
          simp only at hn2 hs ihe
          rw [hFi] at ihb
          rw [hn1, hFi] at ihe
          have hL2 : L2.length = L.length := by omega
          refine drv_sound (n := 12) (rs := _) Try.func75 mo rfl none _ _ ?_
          simp (maxSteps := 10000000) (maxDischargeDepth := 300) only [go_sem, Pg.cells, Ex.cells, St1.cells, isI, I64, Ex.cellsL_length, Ex.cellsL_get, St1.cellsL_length, St1.cellsL_get, List.cons_append, List.nil_append, hx, hlt, e5, e1, e2, hk5, hk1, hk2]
          iterate 8 ((try (refine drv_sound (n := 12) (rs := _) Try.func75 mo rfl _ _ _ ?_; simp (maxSteps := 10000000) (maxDischargeDepth := 300) only [go_sem, Pg.cells, Ex.cells, St1.cells, isI, I64, Ex.cellsL_length, Ex.cellsL_get, St1.cellsL_length, St1.cellsL_get, List.cons_append, List.nil_append, hx, hlt, e5, e1, e2, hk5, hk1, hk2])); (try ((with_reducible refine And.intro ?_ ?_) <;> (repeat' with_reducible apply And.intro) <;> (try first | omega | (simp only [InK]; omega) | (intro k e; cases e; rfl) | (intro hguard; exact ⟨hguard, by simp only [InK]; omega⟩) | kernel_rfl))))
          refine XK.callG [0] ihb ok75 (hhp_one (by simp [hOf, upd, boolsC_ren])) (hbT ()) (fun d h' ⟨_, e⟩ => by subst e; simp) ?_ (fun _ => ⟨by kernel_rfl, _, _, ⟨rfl, rfl⟩, by simp⟩)
          rintro _ _ ⟨rfl, rfl⟩ _
          iterate 3 ((try (refine drv_sound (n := 12) (rs := _) Try.func75 mo rfl _ _ _ ?_; simp (maxSteps := 10000000) (maxDischargeDepth := 300) only [go_sem, Pg.cells, Ex.cells, St1.cells, isI, I64, Ex.cellsL_length, Ex.cellsL_get, St1.cellsL_length, St1.cellsL_get, List.cons_append, List.nil_append, boolsC_ren])); (try ((with_reducible refine And.intro ?_ ?_) <;> (repeat' with_reducible apply And.intro) <;> (try first | omega | (simp only [InK]; omega) | (intro k e; cases e; rfl) | (intro hguard; exact ⟨hguard, by simp only [InK]; omega⟩) | kernel_rfl))))
          refine XK.callG [0] ihe ok75 (hhp_one (by simp [hOf, upd, boolsC_ren])) (hbT ()) (fun d h' ⟨_, e⟩ => by subst e; simp) ?_ (fun _ => ⟨by kernel_rfl, _, _, ⟨rfl, rfl⟩, by simp⟩)
          rintro _ _ ⟨rfl, rfl⟩ _
          by_cases hor : (yb || ye) = true
          · have hFE : F (i + 1) = (true, usesL vs.length 5 (.mk ik iv iks) (usesL vs.length 5 (.mk vk vv vks) L2)) := by rw [hs]; simp [hor]
            have hc : yb = true ∨ (yb = false ∧ ye = true) := by cases yb <;> simp_all
            rcases hc with rfl | ⟨rfl, rfl⟩
            all_goals
              iterate 4 ((try (refine drv_sound (n := 12) (rs := _) Try.func75 mo rfl _ _ _ ?_; simp (maxSteps := 10000000) (maxDischargeDepth := 300) only [go_sem, Pg.cells, Ex.cells, St1.cells, isI, I64, Ex.cellsL_length, Ex.cellsL_get, St1.cellsL_length, St1.cellsL_get, List.cons_append, List.nil_append, boolsC_ren])); (try ((with_reducible refine And.intro ?_ ?_) <;> (repeat' with_reducible apply And.intro) <;> (try first | omega | (simp only [InK]; omega) | (intro k e; cases e; rfl) | (intro hguard; exact ⟨hguard, by simp only [InK]; omega⟩) | kernel_rfl))))
              have u1 := hus _ hex.2 L2 (by omega)
              have u2 := hus _ hex.1 (usesL vs.length 5 (.mk vk vv vks) L2) (by rw [usesL_len]; omega)
              rw [usesL_len] at u2
              rw [hL2] at u1 u2
              refine XK.callG [0] u1 ok119 (hhp_one (by simp [hOf, upd, boolsC_ren])) (hbT ()) (fun d h' ⟨_, e⟩ => by subst e; simp) ?_ (fun _ => ⟨by kernel_rfl, _, _, ⟨rfl, rfl⟩, by simp⟩)
              rintro _ _ ⟨rfl, rfl⟩ _
              iterate 3 ((try (refine drv_sound (n := 12) (rs := _) Try.func75 mo rfl _ _ _ ?_; simp (maxSteps := 10000000) (maxDischargeDepth := 300) only [go_sem, Pg.cells, Ex.cells, St1.cells, isI, I64, Ex.cellsL_length, Ex.cellsL_get, St1.cellsL_length, St1.cellsL_get, List.cons_append, List.nil_append, boolsC_ren])); (try ((with_reducible refine And.intro ?_ ?_) <;> (repeat' with_reducible apply And.intro) <;> (try first | omega | (simp only [InK]; omega) | (intro k e; cases e; rfl) | (intro hguard; exact ⟨hguard, by simp only [InK]; omega⟩) | kernel_rfl))))
              refine XK.callG [0] u2 ok119 (hhp_one (by simp [hOf, upd, boolsC_ren])) (hbT ()) (fun d h' ⟨_, e⟩ => by subst e; simp) ?_ (fun _ => ⟨by kernel_rfl, _, _, ⟨rfl, rfl⟩, by simp⟩)
              rintro _ _ ⟨rfl, rfl⟩ _
              cases so <;> (iterate 4 ((try (refine drv_sound (n := 12) (rs := _) Try.func75 mo rfl _ _ _ ?_; simp (maxSteps := 10000000) (maxDischargeDepth := 300) only [go_sem, Pg.cells, Ex.cells, St1.cells, isI, I64, Ex.cellsL_length, Ex.cellsL_get, St1.cellsL_length, St1.cellsL_get, List.cons_append, List.nil_append, boolsC_ren])); (try ((with_reducible refine And.intro ?_ ?_) <;> (repeat' with_reducible apply And.intro) <;> (try first | omega | (simp only [InK]; omega) | (intro k e; cases e; rfl) | (intro hguard; exact ⟨hguard, by simp only [InK]; omega⟩) | kernel_rfl)))))
              all_goals
                refine again (i + 1) some [] _ hlt (by omega) ?_
                rw [hFE]
                simp (maxSteps := 10000000) (maxDischargeDepth := 300) only [go_sem, TmOK, DM, DMs, CM, CMs, forall_eq, exists_eq_left, Mq, HpOK, LowOK, Pg.cells, Ex.cells, St1.cells, isI, I64, Ex.cellsL_length, Ex.cellsL_get, St1.cellsL_length, St1.cellsL_get, List.cons_append, List.nil_append]
                simp
                exact CMs.kf (boolsC_kf _)
          · have hc : yb = false ∧ ye = false := by cases yb <;> cases ye <;> simp_all
            obtain ⟨rfl, rfl⟩ := hc
            have hFE : F (i + 1) = (so, L2) := by rw [hs]; simp
            cases so <;> (iterate 6 ((try (refine drv_sound (n := 12) (rs := _) Try.func75 mo rfl _ _ _ ?_; simp (maxSteps := 10000000) (maxDischargeDepth := 300) only [go_sem, Pg.cells, Ex.cells, St1.cells, isI, I64, Ex.cellsL_length, Ex.cellsL_get, St1.cellsL_length, St1.cellsL_get, List.cons_append, List.nil_append, boolsC_ren])); (try ((with_reducible refine And.intro ?_ ?_) <;> (repeat' with_reducible apply And.intro) <;> (try first | omega | (simp only [InK]; omega) | (intro k e; cases e; rfl) | (intro hguard; exact ⟨hguard, by simp only [InK]; omega⟩) | kernel_rfl)))))
            all_goals
              refine again (i + 1) some [] _ hlt (by omega) ?_
              rw [hFE]
              simp (maxSteps := 10000000) (maxDischargeDepth := 300) only [go_sem, TmOK, DM, DMs, CM, CMs, forall_eq, exists_eq_left, Mq, HpOK, LowOK, Pg.cells, Ex.cells, St1.cells, isI, I64, Ex.cellsL_length, Ex.cellsL_get, St1.cellsL_length, St1.cellsL_get, List.cons_append, List.nil_append]
              simp
              exact CMs.kf (boolsC_kf _)
      · have hn2 : ¬ i < l.length := by omega
        obtain rfl : i = l.length := by omega
        generalize F l.length = Fe at *
        refine drv_sound (n := 12) (rs := _) Try.func75 mo rfl none _ _ ?_
        simp (maxSteps := 10000000) (maxDischargeDepth := 300) only [go_sem, Pg.cells, Ex.cells, St1.cells, isI, I64, Ex.cellsL_length, Ex.cellsL_get, St1.cellsL_length, St1.cellsL_get, hn2]
        iterate 2 ((try (refine drv_sound (n := 12) (rs := _) Try.func75 mo rfl _ _ _ ?_; simp (maxSteps := 10000000) (maxDischargeDepth := 300) only [go_sem, Pg.cells, Ex.cells, St1.cells, isI, I64, Ex.cellsL_length, Ex.cellsL_get, St1.cellsL_length, St1.cellsL_get, hn2])); (try ((with_reducible refine And.intro ?_ ?_) <;> (repeat' with_reducible apply And.intro) <;> (try first | omega | (simp only [InK]; omega) | (intro k e; cases e; rfl) | (intro hguard; exact ⟨hguard, by simp only [InK]; omega⟩) | kernel_rfl))))
        refine RetOb.ofQ some [] (DB Fe.1) [some (boolsC Fe.2)] ?_ (by rw [← hR]; exact ⟨rfl, rfl⟩) (by simp)
        simp [enumL, DM, DMs, CM, HpOK, LowOK, hOf, upd]
        exact CMs.kf (boolsC_kf _)
    · simp (maxSteps := 10000000) (maxDischargeDepth := 300) only [go_sem, TmOK, DM, DMs, CM, CMs, forall_eq, exists_eq_left, Mq, HpOK, LowOK, Pg.cells, Ex.cells, St1.cells, isI, I64, Ex.cellsL_length, Ex.cellsL_get, St1.cellsL_length, St1.cellsL_get, hF0]
      simp
      exact CMs.kf (boolsC_kf _)
end Go.Proofs.Ytclgjiffpijgmaa.CtD

namespace Go.Proofs.Ytclgjiffpijgmaa.CtD
open Go Go.CT CtF CtR

def jnA (L M : List Bool) : Nat → Bool × List Bool
  | 0 => (false, L)
  | i + 1 => if M.getD i false && !(jnA L M i).2.getD i false then (true, (jnA L M i).2.set i true) else jnA L M i
theorem jnA_len (L M : List Bool) : ∀ i, (jnA L M i).2.length = L.length
  | 0 => rfl
  | i + 1 => by
    rw [jnA]
    split
    · simp [jnA_len L M i]
    · exact jnA_len L M i
theorem jnA_hi (L M : List Bool) : ∀ i j, i ≤ j → (jnA L M i).2.getD j false = L.getD j false
  | 0, j, _ => rfl
  | i + 1, j, h => by
    rw [jnA]
    split
    · rw [← jnA_hi L M i j (by omega)]
      simp only [List.getD_eq_getElem?_getD]
      rw [List.getElem?_set_ne (by omega)]
    · exact jnA_hi L M i j (by omega)
theorem jnA_iff (L M : List Bool) : ∀ i, (jnA L M i).1 = true ↔ ∃ j, j < i ∧ M.getD j false = true ∧ L.getD j false = false
  | 0 => by simp [jnA]
  | i + 1 => by
    have h := jnA_iff L M i
    have h2 := jnA_hi L M i i (Nat.le_refl _)
    rw [jnA, h2]
    cases hm : M.getD i false with
    | false =>
      simp only [Bool.false_and, Bool.false_eq_true, if_false]
      rw [h]
      constructor
      · rintro ⟨j, a, b, c⟩; exact ⟨j, by omega, b, c⟩
      · rintro ⟨j, a, b, c⟩
        refine ⟨j, ?_, b, c⟩
        rcases Nat.lt_or_eq_of_le (Nat.le_of_lt_succ a) with h | rfl
        · exact h
        · rw [hm] at b; cases b
    | true =>
      cases hl : L.getD i false with
      | true =>
        simp only [Bool.true_and, Bool.not_true, Bool.false_eq_true, if_false]
        rw [h]
        constructor
        · rintro ⟨j, a, b, c⟩; exact ⟨j, by omega, b, c⟩
        · rintro ⟨j, a, b, c⟩
          refine ⟨j, ?_, b, c⟩
          rcases Nat.lt_or_eq_of_le (Nat.le_of_lt_succ a) with h | rfl
          · exact h
          · rw [hl] at c; cases c
      | false =>
        simp only [Bool.true_and, Bool.not_false, if_true, true_iff]
        exact ⟨i, by omega, hm, hl⟩

set_option maxHeartbeats 8000000 in
set_option maxRecDepth 10000 in
theorem joinS (L M : List Bool) (hl : L.length ≤ 1000) (hM : M.length = L.length) :
    DC Try.prog 76 [.c (.msl 0 1 0 L.length), .c (.msl 1 1 0 L.length)] [some (boolsC L), some (boolsC M)] (fun r h => r = DB (jnA L M L.length).1 ∧ h = [some (boolsC (jnA L M L.length).2), some (boolsC M)]) := by
  have hmx := mx_eq
  have hfl := jnA_len L M
  generalize hR : (fun (r : D) (h : List (Option (List C))) => r = DB (jnA L M L.length).1 ∧ h = [some (boolsC (jnA L M L.length).2), some (boolsC M)]) = R
  refine dc_of_go Try.func76 rfl (by simp) ?_
  refine drv_sound (n := 12) (rs := _) Try.func76 mo rfl none _ _ ?_
  simp (maxSteps := 10000000) (maxDischargeDepth := 300) only [go_sem, Pg.cells, Ex.cells, St1.cells, isI, I64, Ex.cellsL_length, Ex.cellsL_get, St1.cellsL_length, St1.cellsL_get]
  iterate 1 ((try (refine drv_sound (n := 12) (rs := _) Try.func76 mo rfl _ _ _ ?_; simp (maxSteps := 10000000) (maxDischargeDepth := 300) only [go_sem, Pg.cells, Ex.cells, St1.cells, isI, I64, Ex.cellsL_length, Ex.cellsL_get, St1.cellsL_length, St1.cellsL_get])); (try ((with_reducible refine And.intro ?_ ?_) <;> (repeat' with_reducible apply And.intro) <;> (try first | omega | (simp only [InK]; omega) | (intro k e; cases e; rfl) | (intro hguard; exact ⟨hguard, by simp only [InK]; omega⟩) | kernel_rfl))))
  refine Go.loopQ (fun i : Nat => [(0, .c (.msl 0 1 0 L.length)), (1, .c (.msl 1 1 0 L.length)), (5, DB (jnA L M i).1), (6, DI .i64 i)])
    (fun i => [(0, some (boolsC (jnA L M i).2)), (1, some (boolsC M))]) 4096 (fun i => i ≤ L.length) (fun i => L.length - i) ?_ 0 some [] _ (Nat.zero_le _) ?_
  · intro i hi again
    have hFi := hfl i
    rcases Nat.lt_or_ge i L.length with hlt | hge
    · have a1 := @boolsC_at M i (by omega)
      have a2 := @boolsC_at (jnA L M i).2 i (by omega)
      have hs : jnA L M (i + 1) = if M.getD i false && !(jnA L M i).2.getD i false then (true, (jnA L M i).2.set i true) else jnA L M i := rfl
      have hbl := boolsC_len (jnA L M i).2
      rw [hFi] at hbl
      generalize jnA L M i = Fi at *
      obtain ⟨c, Li⟩ := Fi
      simp only at hFi hs a2 hbl
      cases hm : M.getD i false with
      | false =>
        rw [hm] at a1 hs
        simp only [Bool.false_and, Bool.false_eq_true, if_false] at hs
        refine drv_sound (n := 12) (rs := _) Try.func76 mo rfl none _ _ ?_
        simp (maxSteps := 10000000) (maxDischargeDepth := 300) only [go_sem, Pg.cells, Ex.cells, St1.cells, isI, I64, Ex.cellsL_length, Ex.cellsL_get, St1.cellsL_length, St1.cellsL_get, hlt, a1, a2]
        iterate 4 ((try (refine drv_sound (n := 12) (rs := _) Try.func76 mo rfl _ _ _ ?_; simp (maxSteps := 10000000) (maxDischargeDepth := 300) only [go_sem, Pg.cells, Ex.cells, St1.cells, isI, I64, Ex.cellsL_length, Ex.cellsL_get, St1.cellsL_length, St1.cellsL_get, hlt, a1, a2])); (try ((with_reducible refine And.intro ?_ ?_) <;> (repeat' with_reducible apply And.intro) <;> (try first | omega | (simp only [InK]; omega) | (intro k e; cases e; rfl) | (intro hguard; exact ⟨hguard, by simp only [InK]; omega⟩) | kernel_rfl))))
        refine again (i + 1) some [] _ hlt (by omega) ?_
        rw [hs]
        simp (maxSteps := 10000000) (maxDischargeDepth := 300) only [go_sem, TmOK, DM, DMs, CM, CMs, forall_eq, exists_eq_left, Mq, HpOK, LowOK, Pg.cells, Ex.cells, St1.cells, isI, I64, Ex.cellsL_length, Ex.cellsL_get, St1.cellsL_length, St1.cellsL_get]
        simp
        exact ⟨CMs.kf (boolsC_kf _), CMs.kf (boolsC_kf _)⟩
      | true =>
        rw [hm] at a1 hs
        cases hq : Li.getD i false with
        | true =>
          rw [hq] at a2 hs
          simp only [Bool.true_and, Bool.not_true, Bool.false_eq_true, if_false] at hs
          refine drv_sound (n := 12) (rs := _) Try.func76 mo rfl none _ _ ?_
          simp (maxSteps := 10000000) (maxDischargeDepth := 300) only [go_sem, Pg.cells, Ex.cells, St1.cells, isI, I64, Ex.cellsL_length, Ex.cellsL_get, St1.cellsL_length, St1.cellsL_get, hlt, a1, a2]
          iterate 4 ((try (refine drv_sound (n := 12) (rs := _) Try.func76 mo rfl _ _ _ ?_; simp (maxSteps := 10000000) (maxDischargeDepth := 300) only [go_sem, Pg.cells, Ex.cells, St1.cells, isI, I64, Ex.cellsL_length, Ex.cellsL_get, St1.cellsL_length, St1.cellsL_get, hlt, a1, a2])); (try ((with_reducible refine And.intro ?_ ?_) <;> (repeat' with_reducible apply And.intro) <;> (try first | omega | (simp only [InK]; omega) | (intro k e; cases e; rfl) | (intro hguard; exact ⟨hguard, by simp only [InK]; omega⟩) | kernel_rfl))))
          refine again (i + 1) some [] _ hlt (by omega) ?_
          rw [hs]
          simp (maxSteps := 10000000) (maxDischargeDepth := 300) only [go_sem, TmOK, DM, DMs, CM, CMs, forall_eq, exists_eq_left, Mq, HpOK, LowOK, Pg.cells, Ex.cells, St1.cells, isI, I64, Ex.cellsL_length, Ex.cellsL_get, St1.cellsL_length, St1.cellsL_get]
          simp
          exact ⟨CMs.kf (boolsC_kf _), CMs.kf (boolsC_kf _)⟩
        | false =>
          rw [hq] at a2 hs
          simp only [Bool.true_and, Bool.not_false, if_true] at hs
          refine drv_sound (n := 12) (rs := _) Try.func76 mo rfl none _ _ ?_
          simp (maxSteps := 10000000) (maxDischargeDepth := 300) only [go_sem, Pg.cells, Ex.cells, St1.cells, isI, I64, Ex.cellsL_length, Ex.cellsL_get, St1.cellsL_length, St1.cellsL_get, hlt, a1, a2]
          iterate 5 ((try (refine drv_sound (n := 12) (rs := _) Try.func76 mo rfl _ _ _ ?_; simp (maxSteps := 10000000) (maxDischargeDepth := 300) only [go_sem, Pg.cells, Ex.cells, St1.cells, isI, I64, Ex.cellsL_length, Ex.cellsL_get, St1.cellsL_length, St1.cellsL_get, hlt, a1, a2, boolsC_set, hbl])); (try ((with_reducible refine And.intro ?_ ?_) <;> (repeat' with_reducible apply And.intro) <;> (try first | omega | (simp only [InK]; omega) | (intro k e; cases e; rfl) | (intro hguard; exact ⟨hguard, by simp only [InK]; omega⟩) | kernel_rfl))))
          refine again (i + 1) some [] _ hlt (by omega) ?_
          rw [hs]
          simp (maxSteps := 10000000) (maxDischargeDepth := 300) only [go_sem, TmOK, DM, DMs, CM, CMs, forall_eq, exists_eq_left, Mq, HpOK, LowOK, Pg.cells, Ex.cells, St1.cells, isI, I64, Ex.cellsL_length, Ex.cellsL_get, St1.cellsL_length, St1.cellsL_get]
          simp
          exact ⟨CMs.kf (boolsC_kf _), CMs.kf (boolsC_kf _)⟩
    · have hn2 : ¬ i < L.length := by omega
      obtain rfl : i = L.length := by omega
      refine drv_sound (n := 12) (rs := _) Try.func76 mo rfl none _ _ ?_
      simp (maxSteps := 10000000) (maxDischargeDepth := 300) only [go_sem, Pg.cells, Ex.cells, St1.cells, isI, I64, Ex.cellsL_length, Ex.cellsL_get, St1.cellsL_length, St1.cellsL_get, hn2]
      iterate 2 ((try (refine drv_sound (n := 12) (rs := _) Try.func76 mo rfl _ _ _ ?_; simp (maxSteps := 10000000) (maxDischargeDepth := 300) only [go_sem, Pg.cells, Ex.cells, St1.cells, isI, I64, Ex.cellsL_length, Ex.cellsL_get, St1.cellsL_length, St1.cellsL_get, hn2])); (try ((with_reducible refine And.intro ?_ ?_) <;> (repeat' with_reducible apply And.intro) <;> (try first | omega | (simp only [InK]; omega) | (intro k e; cases e; rfl) | (intro hguard; exact ⟨hguard, by simp only [InK]; omega⟩) | kernel_rfl))))
      refine RetOb.ofQ some [] (DB (jnA L M L.length).1) [some (boolsC (jnA L M L.length).2), some (boolsC M)] ?_ (by rw [← hR]; exact ⟨rfl, rfl⟩) (by simp)
      simp [enumL, DM, DMs, CM, HpOK, LowOK, hOf, upd]
      exact ⟨CMs.kf (boolsC_kf _), CMs.kf (boolsC_kf _)⟩
  · simp (maxSteps := 10000000) (maxDischargeDepth := 300) only [go_sem, TmOK, DM, DMs, CM, CMs, forall_eq, exists_eq_left, Mq, HpOK, LowOK, Pg.cells, Ex.cells, St1.cells, isI, I64, Ex.cellsL_length, Ex.cellsL_get, St1.cellsL_length, St1.cellsL_get, jnA]
    simp
    exact ⟨CMs.kf (boolsC_kf _), CMs.kf (boolsC_kf _)⟩
end Go.Proofs.Ytclgjiffpijgmaa.CtD
