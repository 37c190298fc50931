/- Contracts of functions of the program, one behind the other, as plain data: what each call returns and which blocks it leaves. -/
import Derived.Test.YtmagbjbanpgmhaaGreatSFacts
import Derived.Test.YtmagbjbanpgmhaaGreatSAk
import Derived.Test.YtmagbjbanpgmhaaGreatSAl
import Derived.Test.YtmagbjbanpgmhaaGreatSAi
set_option linter.unusedVariables false
set_option linter.unusedSimpArgs false
set_option maxHeartbeats 16000000
set_option maxRecDepth 100000
namespace Go.Proofs.YtmagbjbanpgmhaaGreat.CtR
open Go Go.CT CtF

theorem okS_false {p : Pg} {d : Nat} {k t : Int} {ix v : Ex} {c : Int} {b e : List St1} {n : Nat} (h : headOK p k t ix v c b.length e.length = false) : false = okS p (d + 1) (.mk k t ix v c b e) n := by
  simp [okS, stmtOK, h]
theorem okS_true {p : Pg} {d : Nat} {k t : Int} {ix v : Ex} {c : Int} {b e : List St1} {n : Nat} (h : headOK p k t ix v c b.length e.length = true) :
    okS p (d + 1) (.mk k t ix v c b e) n = (okB p d b (n + 1) && okB p d e (n + 1 + lsize d b)) := by
  have ht : tsize (d + 1) (.mk k t ix v c b e) = 1 + lsize d b + lsize d e := by simp [tsize, lsize]
  rw [okS, ht, stmtOK, h]
  simp only [okB, Bool.true_and]
  rw [Bool.eq_iff_iff]
  simp only [Bool.and_eq_true, decide_eq_true_eq]
  generalize lsize d b = x
  generalize lsize d e = y
  constructor
  · rintro ⟨⟨h1, h2⟩, h3⟩; exact ⟨⟨h1, by omega⟩, h2, by omega⟩
  · rintro ⟨⟨h1, h2⟩, h3, h4⟩; exact ⟨⟨h1, h3⟩, by omega⟩

theorem stmtOf (p : Pg) (hl : p.vars.length ≤ mx) (hl2 : p.arrays.length ≤ mx) (d : Nat) (deep : Int) (hdeep : 1 ≤ deep) (hsum : deep + (d + 1 : Nat) = 6)
    (ih : ∀ (l : List St1) (c : Nat), c ≤ 60 → DC Tryz.prog 90 [.agg p.cells, .c (.isl 11 (St1.cellsL l)), DI .i64 (deep + 1), .c (.ptr 0 0)] [some [I64 c]] (stmtsR p d l c))
    (s : St1) (n : Nat) (hn : n ≤ 60) : DC Tryz.prog 128 [.agg p.cells, .agg s.cells, DI .i64 deep, .c (.ptr 0 0)] [some [I64 n]] (stmtR p (d + 1) s n) := by
  obtain ⟨vs, ar, bd⟩ := p
  have hl : vs.length ≤ mx := hl
  have hl2 : ar.length ≤ mx := hl2
  have hmx := mx_eq
  obtain ⟨k, t, ⟨ik, iv, iks⟩, ⟨vk, vv, vks⟩, c, b, e⟩ := s
  have ret : ∀ (q : Bool) (c' : Nat) (hp : Hp), q = okS ⟨vs, ar, bd⟩ (d + 1) (.mk k t (.mk ik iv iks) (.mk vk vv vks) c b e) n → hp 0 = some (some [I64 c']) → c' ≤ 61 → (q = true → c' = n + tsize (d + 1) (.mk k t (.mk ik iv iks) (.mk vk vv vks) c b e)) →
      RetOb 1 (stmtR ⟨vs, ar, bd⟩ (d + 1) (.mk k t (.mk ik iv iks) (.mk vk vv vks) c b e) n) (DB q) hp :=
    fun q c' hp hb hhp h16 ht => RetOb.keep1 (d := DB q) (cs := [I64 c']) ⟨c', by rw [hb], rfl, h16, by rw [← hb]; exact ht⟩ hhp (by simp [kf]) rfl
  have hd5 : (5 < deep) = False := eq_false (by omega)
  have hx := fun x => expr ⟨vs, ar, bd⟩ x hl hl2
  by_cases hn60 : n = 60
  · have h61 : (60 < (n : Int) + 1) = True := eq_true (by omega)
    refine dc_of_go Tryz.func128 rfl (by simp) ?_
    refine drv_sound (n := 100) (rs := _) Tryz.func128 mo rfl none _ _ ?_
    simp (maxSteps := 9999999) only [go_sem, h61]
    refine ⟨by simp only [InK]; omega, ret _ (n + 1) _ ?_ (by simp [I64, upd_same]) (by omega) (by simp)⟩
    symm
    simp only [okS]
    rw [Bool.and_eq_false_iff]
    right
    have := tsize_pos (d := d) (.mk k t (.mk ik iv iks) (.mk vk vv vks) c b e)
    simp; omega
  have h61 : (60 < (n : Int) + 1) = False := eq_false (by omega)
  rcases (by omega : k = 1 ∨ k = 5 ∨ k = 2 ∨ k = 3 ∨ k = 4 ∨ (k ≠ 1 ∧ k ≠ 5 ∧ k ≠ 2 ∧ k ≠ 3 ∧ k ≠ 4)) with hk | hk | hk | hk | hk | ⟨h1, h5, h2, h3, h4⟩
  · subst hk
    refine dc_of_go Tryz.func128 rfl (by simp) ?_
    refine drv_sound (n := 100) (rs := _) Tryz.func128 mo rfl none _ _ ?_
    simp (maxSteps := 9999999) only [go_sem, h61, hd5, Int.reduceSub, Bool.and_false, Bool.false_and, Bool.or_false]
    (repeat' with_reducible apply And.intro) <;> (try first | omega | (simp only [InK]; omega) | (intro k e; cases e; rfl) | (intro hguard; exact ⟨hguard, by simp only [InK]; omega⟩) | kernel_rfl)
    refine XK.plain (within t 0 _) ok70 ?_ (hbT ())
    refine drv_sound (n := 100) (rs := _) Tryz.func128 mo rfl (some _) _ _ ?_
    simp (maxSteps := 9999999) only [go_sem, h61, hd5, Int.reduceSub, Bool.and_false, Bool.false_and, Bool.or_false]
    refine XK.gskip 8 true (DB false) ?_ (hbT ())
    refine drv_sound (n := 100) (rs := _) Tryz.func128 mo rfl (some _) _ _ ?_
    simp (maxSteps := 9999999) only [go_sem, h61, hd5, Int.reduceSub, Bool.and_false, Bool.false_and, Bool.or_false]

    refine ⟨fun hno => ret _ (n + 1) _ (okS_false ?_) (by simp [I64, upd_same]) (by omega) (by simp), fun hyes => ?_⟩
    · unfold headOK parts blk; grind
    refine XK.gskip 1 true (DB false) ?_ (hbT ())
    refine drv_sound (n := 100) (rs := _) Tryz.func128 mo rfl (some _) _ _ ?_
    simp (maxSteps := 9999999) only [go_sem, h61, hd5, Int.reduceSub, Bool.and_false, Bool.false_and, Bool.or_false]
    refine XK.gskip 7 false (DB false) ?_ (hbT ())
    refine drv_sound (n := 100) (rs := _) Tryz.func128 mo rfl (some _) _ _ ?_
    simp (maxSteps := 9999999) only [go_sem, h61, hd5, Int.reduceSub, Bool.and_false, Bool.false_and, Bool.or_false]
    refine XK.gplain 17 true true (fun _ => isNone (.mk ik iv iks)) ok152 ?_ (hbT ()) (hok := by intro hx; simp [okP, getCall, Call.operands, evT, upd, peelB, DB, DI, cst, one] at hx ⊢; first | done | exact hx | (simp_all; done) | omega)
    refine drv_sound (n := 100) (rs := _) Tryz.func128 mo rfl (some _) _ _ ?_
    simp (maxSteps := 9999999) only [go_sem, h61, hd5, Int.reduceSub, Bool.and_false, Bool.false_and, Bool.or_false]
    refine XK.gplain 26 true (none0 (.mk ik iv iks)) (fun _ => hx (.mk vk vv vks)) ok150 ?_ (hbT ()) (hok := by intro hx; simp [okP, getCall, Call.operands, evT, upd, peelB, DB, DI, cst, one] at hx ⊢; first | done | exact hx | (simp_all; done) | omega)
    refine drv_sound (n := 100) (rs := _) Tryz.func128 mo rfl (some _) _ _ ?_
    simp (maxSteps := 9999999) only [go_sem, h61, hd5, Int.reduceSub, Bool.and_false, Bool.false_and, Bool.or_false]
    refine XK.gskip 37 true (DB false) ?_ (hbT ())
    refine drv_sound (n := 100) (rs := _) Tryz.func128 mo rfl (some _) _ _ ?_
    simp (maxSteps := 9999999) only [go_sem, h61, hd5, Int.reduceSub, Bool.and_false, Bool.false_and, Bool.or_false]
    refine ⟨fun hno => ret _ (n + 1) _ (okS_false ?_) (by simp [I64, upd_same]) (by omega) (by simp), fun hyes2 => ?_⟩
    · unfold headOK parts blk; grind
    have hhead : headOK ⟨vs, ar, bd⟩ 1 t (.mk ik iv iks) (.mk vk vv vks) c b.length e.length = true := by unfold headOK parts blk; grind
    have heq := okS_true (d := d) (n := n) (b := b) (e := e) hhead
    have hts : tsize (d + 1) (.mk 1 t (.mk ik iv iks) (.mk vk vv vks) c b e) = 1 + lsize d b + lsize d e := by simp [tsize, lsize]
    (repeat' with_reducible apply And.intro) <;> (try first | omega | (simp only [InK]; omega) | (intro k e; cases e; rfl) | (intro hguard; exact ⟨hguard, by simp only [InK]; omega⟩) | kernel_rfl)
    refine XK.callG [0] (ih b (n + 1) (by omega)) ok90 (hhp_one rfl) (hbT ()) (fun d h' ⟨c', _, e, _⟩ => by subst e; simp) ?_
    rintro _ h' ⟨c1, rfl, rfl, hc61, htr⟩ _
    cases hb : okB ⟨vs, ar, bd⟩ d b (n + 1) with
    | false =>
      rw [hb] at heq
      refine drv_sound (n := 100) (rs := _) Tryz.func128 mo rfl (some _) _ _ ?_
      simp (maxSteps := 9999999) only [go_sem, hb, h61, hd5, Int.reduceSub, Bool.and_false, Bool.false_and, Bool.or_false]
      refine XK.gskip 7 true (DB false) ?_ (hbT ())
      refine drv_sound (n := 100) (rs := _) Tryz.func128 mo rfl (some _) _ _ ?_
      simp (maxSteps := 9999999) only [go_sem, h61, hd5, Int.reduceSub, Bool.and_false, Bool.false_and, Bool.or_false]
      exact ret _ c1 _ (by rw [heq]; rfl) (by simp [I64, upd_same]) hc61 (by simp)
    | true =>
      have hc1 := htr hb
      have hc160 : c1 ≤ 60 := by simp only [okB, Bool.and_eq_true, decide_eq_true_eq] at hb; omega
      rw [hb, Bool.true_and, ← hc1] at heq
      refine drv_sound (n := 100) (rs := _) Tryz.func128 mo rfl (some _) _ _ ?_
      simp (maxSteps := 9999999) only [go_sem, hb, h61, hd5, Int.reduceSub, Bool.and_false, Bool.false_and, Bool.or_false]
      (repeat' with_reducible apply And.intro) <;> (try first | omega | (simp only [InK]; omega) | (intro k e; cases e; rfl) | (intro hguard; exact ⟨hguard, by simp only [InK]; omega⟩) | kernel_rfl)
      refine XK.callT 7 true [0] (ih e c1 hc160) ok90 (hhp_one rfl) (hbT ()) (fun d h' ⟨c', _, e, _⟩ => by subst e; simp) ?_
      rintro _ h' ⟨c2, rfl, rfl, hc62, htr2⟩ _
      refine drv_sound (n := 100) (rs := _) Tryz.func128 mo rfl (some _) _ _ ?_
      simp (maxSteps := 9999999) only [go_sem, h61, hd5, Int.reduceSub, Bool.and_false, Bool.false_and, Bool.or_false]
      exact ret _ c2 _ heq.symm (by simp [I64, upd_same]) hc62 (fun h => by rw [hts, htr2 h]; omega)
  · subst hk
    refine dc_of_go Tryz.func128 rfl (by simp) ?_
    refine drv_sound (n := 100) (rs := _) Tryz.func128 mo rfl none _ _ ?_
    simp (maxSteps := 9999999) only [go_sem, h61, hd5, Int.reduceSub, Bool.and_false, Bool.false_and, Bool.or_false]
    (repeat' with_reducible apply And.intro) <;> (try first | omega | (simp only [InK]; omega) | (intro k e; cases e; rfl) | (intro hguard; exact ⟨hguard, by simp only [InK]; omega⟩) | kernel_rfl)
    refine XK.plain (within t 0 _) ok70 ?_ (hbT ())
    refine drv_sound (n := 100) (rs := _) Tryz.func128 mo rfl (some _) _ _ ?_
    simp (maxSteps := 9999999) only [go_sem, h61, hd5, Int.reduceSub, Bool.and_false, Bool.false_and, Bool.or_false]
    refine XK.gskip 8 true (DB false) ?_ (hbT ())
    refine drv_sound (n := 100) (rs := _) Tryz.func128 mo rfl (some _) _ _ ?_
    simp (maxSteps := 9999999) only [go_sem, h61, hd5, Int.reduceSub, Bool.and_false, Bool.false_and, Bool.or_false]

    refine ⟨fun hno => ret _ (n + 1) _ (okS_false ?_) (by simp [I64, upd_same]) (by omega) (by simp), fun hyes => ?_⟩
    · unfold headOK parts blk; grind
    refine XK.gskip 1 true (DB false) ?_ (hbT ())
    refine drv_sound (n := 100) (rs := _) Tryz.func128 mo rfl (some _) _ _ ?_
    simp (maxSteps := 9999999) only [go_sem, h61, hd5, Int.reduceSub, Bool.and_false, Bool.false_and, Bool.or_false]
    refine XK.gskip 7 false (DB false) ?_ (hbT ())
    refine drv_sound (n := 100) (rs := _) Tryz.func128 mo rfl (some _) _ _ ?_
    simp (maxSteps := 9999999) only [go_sem, h61, hd5, Int.reduceSub, Bool.and_false, Bool.false_and, Bool.or_false]
    refine XK.gplain 17 true true (fun _ => isNone (.mk ik iv iks)) ok152 ?_ (hbT ()) (hok := by intro hx; simp [okP, getCall, Call.operands, evT, upd, peelB, DB, DI, cst, one] at hx ⊢; first | done | exact hx | (simp_all; done) | omega)
    refine drv_sound (n := 100) (rs := _) Tryz.func128 mo rfl (some _) _ _ ?_
    simp (maxSteps := 9999999) only [go_sem, h61, hd5, Int.reduceSub, Bool.and_false, Bool.false_and, Bool.or_false]
    refine XK.gplain 26 true (none0 (.mk ik iv iks)) (fun _ => hx (.mk vk vv vks)) ok150 ?_ (hbT ()) (hok := by intro hx; simp [okP, getCall, Call.operands, evT, upd, peelB, DB, DI, cst, one] at hx ⊢; first | done | exact hx | (simp_all; done) | omega)
    refine drv_sound (n := 100) (rs := _) Tryz.func128 mo rfl (some _) _ _ ?_
    simp (maxSteps := 9999999) only [go_sem, h61, hd5, Int.reduceSub, Bool.and_false, Bool.false_and, Bool.or_false]
    refine XK.gskip 37 true (DB false) ?_ (hbT ())
    refine drv_sound (n := 100) (rs := _) Tryz.func128 mo rfl (some _) _ _ ?_
    simp (maxSteps := 9999999) only [go_sem, h61, hd5, Int.reduceSub, Bool.and_false, Bool.false_and, Bool.or_false]
    refine ⟨fun hno => ret _ (n + 1) _ (okS_false ?_) (by simp [I64, upd_same]) (by omega) (by simp), fun hyes2 => ?_⟩
    · unfold headOK parts blk; grind
    have hhead : headOK ⟨vs, ar, bd⟩ 5 t (.mk ik iv iks) (.mk vk vv vks) c b.length e.length = true := by unfold headOK parts blk; grind
    have heq := okS_true (d := d) (n := n) (b := b) (e := e) hhead
    have hts : tsize (d + 1) (.mk 5 t (.mk ik iv iks) (.mk vk vv vks) c b e) = 1 + lsize d b + lsize d e := by simp [tsize, lsize]
    (repeat' with_reducible apply And.intro) <;> (try first | omega | (simp only [InK]; omega) | (intro k e; cases e; rfl) | (intro hguard; exact ⟨hguard, by simp only [InK]; omega⟩) | kernel_rfl)
    refine XK.callG [0] (ih b (n + 1) (by omega)) ok90 (hhp_one rfl) (hbT ()) (fun d h' ⟨c', _, e, _⟩ => by subst e; simp) ?_
    rintro _ h' ⟨c1, rfl, rfl, hc61, htr⟩ _
    cases hb : okB ⟨vs, ar, bd⟩ d b (n + 1) with
    | false =>
      rw [hb] at heq
      refine drv_sound (n := 100) (rs := _) Tryz.func128 mo rfl (some _) _ _ ?_
      simp (maxSteps := 9999999) only [go_sem, hb, h61, hd5, Int.reduceSub, Bool.and_false, Bool.false_and, Bool.or_false]
      refine XK.gskip 7 true (DB false) ?_ (hbT ())
      refine drv_sound (n := 100) (rs := _) Tryz.func128 mo rfl (some _) _ _ ?_
      simp (maxSteps := 9999999) only [go_sem, h61, hd5, Int.reduceSub, Bool.and_false, Bool.false_and, Bool.or_false]
      exact ret _ c1 _ (by rw [heq]; rfl) (by simp [I64, upd_same]) hc61 (by simp)
    | true =>
      have hc1 := htr hb
      have hc160 : c1 ≤ 60 := by simp only [okB, Bool.and_eq_true, decide_eq_true_eq] at hb; omega
      rw [hb, Bool.true_and, ← hc1] at heq
      refine drv_sound (n := 100) (rs := _) Tryz.func128 mo rfl (some _) _ _ ?_
      simp (maxSteps := 9999999) only [go_sem, hb, h61, hd5, Int.reduceSub, Bool.and_false, Bool.false_and, Bool.or_false]
      (repeat' with_reducible apply And.intro) <;> (try first | omega | (simp only [InK]; omega) | (intro k e; cases e; rfl) | (intro hguard; exact ⟨hguard, by simp only [InK]; omega⟩) | kernel_rfl)
      refine XK.callT 7 true [0] (ih e c1 hc160) ok90 (hhp_one rfl) (hbT ()) (fun d h' ⟨c', _, e, _⟩ => by subst e; simp) ?_
      rintro _ h' ⟨c2, rfl, rfl, hc62, htr2⟩ _
      refine drv_sound (n := 100) (rs := _) Tryz.func128 mo rfl (some _) _ _ ?_
      simp (maxSteps := 9999999) only [go_sem, h61, hd5, Int.reduceSub, Bool.and_false, Bool.false_and, Bool.or_false]
      exact ret _ c2 _ heq.symm (by simp [I64, upd_same]) hc62 (fun h => by rw [hts, htr2 h]; omega)
  · subst hk
    refine dc_of_go Tryz.func128 rfl (by simp) ?_
    refine drv_sound (n := 100) (rs := _) Tryz.func128 mo rfl none _ _ ?_
    simp (maxSteps := 9999999) only [go_sem, h61, hd5, Int.reduceSub, Bool.and_false, Bool.false_and, Bool.or_false]
    (repeat' with_reducible apply And.intro) <;> (try first | omega | (simp only [InK]; omega) | (intro k e; cases e; rfl) | (intro hguard; exact ⟨hguard, by simp only [InK]; omega⟩) | kernel_rfl)
    refine XK.plain (within t 0 _) ok70 ?_ (hbT ())
    refine drv_sound (n := 100) (rs := _) Tryz.func128 mo rfl (some _) _ _ ?_
    simp (maxSteps := 9999999) only [go_sem, h61, hd5, Int.reduceSub, Bool.and_false, Bool.false_and, Bool.or_false]
    refine XK.gskip 8 true (DB false) ?_ (hbT ())
    refine drv_sound (n := 100) (rs := _) Tryz.func128 mo rfl (some _) _ _ ?_
    simp (maxSteps := 9999999) only [go_sem, h61, hd5, Int.reduceSub, Bool.and_false, Bool.false_and, Bool.or_false]

    refine ⟨fun hno => ret _ (n + 1) _ (okS_false ?_) (by simp [I64, upd_same]) (by omega) (by simp), fun hyes => ?_⟩
    · unfold headOK parts blk; grind
    refine XK.gplain 1 true true (fun _ => hx (.mk ik iv iks)) ok150 ?_ (hbT ()) (hok := by intro hx; simp [okP, getCall, Call.operands, evT, upd, peelB, DB, DI, cst, one] at hx ⊢; first | done | exact hx | (simp_all; done) | omega)
    refine drv_sound (n := 100) (rs := _) Tryz.func128 mo rfl (some _) _ _ ?_
    simp (maxSteps := 9999999) only [go_sem, h61, hd5, Int.reduceSub, Bool.and_false, Bool.false_and, Bool.or_false]
    refine XK.gplain 7 false (right ⟨vs, ar, bd⟩ (.mk ik iv iks)) (fun _ => isPlain (.mk ik iv iks)) ok151 ?_ (hbT ()) (hok := by intro hx; simp [okP, getCall, Call.operands, evT, upd, peelB, DB, DI, cst, one] at hx ⊢; first | done | exact hx | (simp_all; done) | omega)
    refine drv_sound (n := 100) (rs := _) Tryz.func128 mo rfl (some _) _ _ ?_
    simp (maxSteps := 9999999) only [go_sem, h61, hd5, Int.reduceSub, Bool.and_false, Bool.false_and, Bool.or_false]
    refine XK.gskip 17 true (DB false) ?_ (hbT ())
    refine drv_sound (n := 100) (rs := _) Tryz.func128 mo rfl (some _) _ _ ?_
    simp (maxSteps := 9999999) only [go_sem, h61, hd5, Int.reduceSub, Bool.and_false, Bool.false_and, Bool.or_false]
    refine XK.gplain 26 true (right ⟨vs, ar, bd⟩ (.mk ik iv iks) && atom (.mk ik iv iks)) (fun _ => hx (.mk vk vv vks)) ok150 ?_ (hbT ()) (hok := by intro hx; simp [okP, getCall, Call.operands, evT, upd, peelB, DB, DI, cst, one] at hx ⊢; first | done | exact hx | (simp_all; done) | omega)
    refine drv_sound (n := 100) (rs := _) Tryz.func128 mo rfl (some _) _ _ ?_
    simp (maxSteps := 9999999) only [go_sem, h61, hd5, Int.reduceSub, Bool.and_false, Bool.false_and, Bool.or_false]
    refine XK.gskip 37 true (DB false) ?_ (hbT ())
    refine drv_sound (n := 100) (rs := _) Tryz.func128 mo rfl (some _) _ _ ?_
    simp (maxSteps := 9999999) only [go_sem, h61, hd5, Int.reduceSub, Bool.and_false, Bool.false_and, Bool.or_false]
    refine ⟨fun hno => ret _ (n + 1) _ (okS_false ?_) (by simp [I64, upd_same]) (by omega) (by simp), fun hyes2 => ?_⟩
    · unfold headOK parts blk; grind
    have hhead : headOK ⟨vs, ar, bd⟩ 2 t (.mk ik iv iks) (.mk vk vv vks) c b.length e.length = true := by unfold headOK parts blk; grind
    have heq := okS_true (d := d) (n := n) (b := b) (e := e) hhead
    have hts : tsize (d + 1) (.mk 2 t (.mk ik iv iks) (.mk vk vv vks) c b e) = 1 + lsize d b + lsize d e := by simp [tsize, lsize]
    (repeat' with_reducible apply And.intro) <;> (try first | omega | (simp only [InK]; omega) | (intro k e; cases e; rfl) | (intro hguard; exact ⟨hguard, by simp only [InK]; omega⟩) | kernel_rfl)
    refine XK.callG [0] (ih b (n + 1) (by omega)) ok90 (hhp_one rfl) (hbT ()) (fun d h' ⟨c', _, e, _⟩ => by subst e; simp) ?_
    rintro _ h' ⟨c1, rfl, rfl, hc61, htr⟩ _
    cases hb : okB ⟨vs, ar, bd⟩ d b (n + 1) with
    | false =>
      rw [hb] at heq
      refine drv_sound (n := 100) (rs := _) Tryz.func128 mo rfl (some _) _ _ ?_
      simp (maxSteps := 9999999) only [go_sem, hb, h61, hd5, Int.reduceSub, Bool.and_false, Bool.false_and, Bool.or_false]
      refine XK.gskip 7 true (DB false) ?_ (hbT ())
      refine drv_sound (n := 100) (rs := _) Tryz.func128 mo rfl (some _) _ _ ?_
      simp (maxSteps := 9999999) only [go_sem, h61, hd5, Int.reduceSub, Bool.and_false, Bool.false_and, Bool.or_false]
      exact ret _ c1 _ (by rw [heq]; rfl) (by simp [I64, upd_same]) hc61 (by simp)
    | true =>
      have hc1 := htr hb
      have hc160 : c1 ≤ 60 := by simp only [okB, Bool.and_eq_true, decide_eq_true_eq] at hb; omega
      rw [hb, Bool.true_and, ← hc1] at heq
      refine drv_sound (n := 100) (rs := _) Tryz.func128 mo rfl (some _) _ _ ?_
      simp (maxSteps := 9999999) only [go_sem, hb, h61, hd5, Int.reduceSub, Bool.and_false, Bool.false_and, Bool.or_false]
      (repeat' with_reducible apply And.intro) <;> (try first | omega | (simp only [InK]; omega) | (intro k e; cases e; rfl) | (intro hguard; exact ⟨hguard, by simp only [InK]; omega⟩) | kernel_rfl)
      refine XK.callT 7 true [0] (ih e c1 hc160) ok90 (hhp_one rfl) (hbT ()) (fun d h' ⟨c', _, e, _⟩ => by subst e; simp) ?_
      rintro _ h' ⟨c2, rfl, rfl, hc62, htr2⟩ _
      refine drv_sound (n := 100) (rs := _) Tryz.func128 mo rfl (some _) _ _ ?_
      simp (maxSteps := 9999999) only [go_sem, h61, hd5, Int.reduceSub, Bool.and_false, Bool.false_and, Bool.or_false]
      exact ret _ c2 _ heq.symm (by simp [I64, upd_same]) hc62 (fun h => by rw [hts, htr2 h]; omega)
  · subst hk
    refine dc_of_go Tryz.func128 rfl (by simp) ?_
    refine drv_sound (n := 100) (rs := _) Tryz.func128 mo rfl none _ _ ?_
    simp (maxSteps := 9999999) only [go_sem, h61, hd5, Int.reduceSub, Bool.and_false, Bool.false_and, Bool.or_false]
    (repeat' with_reducible apply And.intro) <;> (try first | omega | (simp only [InK]; omega) | (intro k e; cases e; rfl) | (intro hguard; exact ⟨hguard, by simp only [InK]; omega⟩) | kernel_rfl)
    refine XK.plain (within t 0 _) ok70 ?_ (hbT ())
    refine drv_sound (n := 100) (rs := _) Tryz.func128 mo rfl (some _) _ _ ?_
    simp (maxSteps := 9999999) only [go_sem, h61, hd5, Int.reduceSub, Bool.and_false, Bool.false_and, Bool.or_false]
    refine XK.gskip 8 true (DB false) ?_ (hbT ())
    refine drv_sound (n := 100) (rs := _) Tryz.func128 mo rfl (some _) _ _ ?_
    simp (maxSteps := 9999999) only [go_sem, h61, hd5, Int.reduceSub, Bool.and_false, Bool.false_and, Bool.or_false]

    refine ⟨fun hno => ret _ (n + 1) _ (okS_false ?_) (by simp [I64, upd_same]) (by omega) (by simp), fun hyes => ?_⟩
    · unfold headOK parts blk; grind
    refine XK.gskip 1 true (DB false) ?_ (hbT ())
    refine drv_sound (n := 100) (rs := _) Tryz.func128 mo rfl (some _) _ _ ?_
    simp (maxSteps := 9999999) only [go_sem, h61, hd5, Int.reduceSub, Bool.and_false, Bool.false_and, Bool.or_false]
    refine XK.gskip 7 false (DB false) ?_ (hbT ())
    refine drv_sound (n := 100) (rs := _) Tryz.func128 mo rfl (some _) _ _ ?_
    simp (maxSteps := 9999999) only [go_sem, h61, hd5, Int.reduceSub, Bool.and_false, Bool.false_and, Bool.or_false]
    refine XK.gplain 17 true true (fun _ => isNone (.mk ik iv iks)) ok152 ?_ (hbT ()) (hok := by intro hx; simp [okP, getCall, Call.operands, evT, upd, peelB, DB, DI, cst, one] at hx ⊢; first | done | exact hx | (simp_all; done) | omega)
    refine drv_sound (n := 100) (rs := _) Tryz.func128 mo rfl (some _) _ _ ?_
    simp (maxSteps := 9999999) only [go_sem, h61, hd5, Int.reduceSub, Bool.and_false, Bool.false_and, Bool.or_false]
    refine XK.gplain 26 true (none0 (.mk ik iv iks)) (fun _ => hx (.mk vk vv vks)) ok150 ?_ (hbT ()) (hok := by intro hx; simp [okP, getCall, Call.operands, evT, upd, peelB, DB, DI, cst, one] at hx ⊢; first | done | exact hx | (simp_all; done) | omega)
    refine drv_sound (n := 100) (rs := _) Tryz.func128 mo rfl (some _) _ _ ?_
    simp (maxSteps := 9999999) only [go_sem, h61, hd5, Int.reduceSub, Bool.and_false, Bool.false_and, Bool.or_false]
    refine XK.gskip 37 true (DB false) ?_ (hbT ())
    refine drv_sound (n := 100) (rs := _) Tryz.func128 mo rfl (some _) _ _ ?_
    simp (maxSteps := 9999999) only [go_sem, h61, hd5, Int.reduceSub, Bool.and_false, Bool.false_and, Bool.or_false]
    refine ⟨fun hno => ret _ (n + 1) _ (okS_false ?_) (by simp [I64, upd_same]) (by omega) (by simp), fun hyes2 => ?_⟩
    · unfold headOK parts blk; grind
    have hhead : headOK ⟨vs, ar, bd⟩ 3 t (.mk ik iv iks) (.mk vk vv vks) c b.length e.length = true := by unfold headOK parts blk; grind
    have heq := okS_true (d := d) (n := n) (b := b) (e := e) hhead
    have hts : tsize (d + 1) (.mk 3 t (.mk ik iv iks) (.mk vk vv vks) c b e) = 1 + lsize d b + lsize d e := by simp [tsize, lsize]
    (repeat' with_reducible apply And.intro) <;> (try first | omega | (simp only [InK]; omega) | (intro k e; cases e; rfl) | (intro hguard; exact ⟨hguard, by simp only [InK]; omega⟩) | kernel_rfl)
    refine XK.callG [0] (ih b (n + 1) (by omega)) ok90 (hhp_one rfl) (hbT ()) (fun d h' ⟨c', _, e, _⟩ => by subst e; simp) ?_
    rintro _ h' ⟨c1, rfl, rfl, hc61, htr⟩ _
    cases hb : okB ⟨vs, ar, bd⟩ d b (n + 1) with
    | false =>
      rw [hb] at heq
      refine drv_sound (n := 100) (rs := _) Tryz.func128 mo rfl (some _) _ _ ?_
      simp (maxSteps := 9999999) only [go_sem, hb, h61, hd5, Int.reduceSub, Bool.and_false, Bool.false_and, Bool.or_false]
      refine XK.gskip 7 true (DB false) ?_ (hbT ())
      refine drv_sound (n := 100) (rs := _) Tryz.func128 mo rfl (some _) _ _ ?_
      simp (maxSteps := 9999999) only [go_sem, h61, hd5, Int.reduceSub, Bool.and_false, Bool.false_and, Bool.or_false]
      exact ret _ c1 _ (by rw [heq]; rfl) (by simp [I64, upd_same]) hc61 (by simp)
    | true =>
      have hc1 := htr hb
      have hc160 : c1 ≤ 60 := by simp only [okB, Bool.and_eq_true, decide_eq_true_eq] at hb; omega
      rw [hb, Bool.true_and, ← hc1] at heq
      refine drv_sound (n := 100) (rs := _) Tryz.func128 mo rfl (some _) _ _ ?_
      simp (maxSteps := 9999999) only [go_sem, hb, h61, hd5, Int.reduceSub, Bool.and_false, Bool.false_and, Bool.or_false]
      (repeat' with_reducible apply And.intro) <;> (try first | omega | (simp only [InK]; omega) | (intro k e; cases e; rfl) | (intro hguard; exact ⟨hguard, by simp only [InK]; omega⟩) | kernel_rfl)
      refine XK.callT 7 true [0] (ih e c1 hc160) ok90 (hhp_one rfl) (hbT ()) (fun d h' ⟨c', _, e, _⟩ => by subst e; simp) ?_
      rintro _ h' ⟨c2, rfl, rfl, hc62, htr2⟩ _
      refine drv_sound (n := 100) (rs := _) Tryz.func128 mo rfl (some _) _ _ ?_
      simp (maxSteps := 9999999) only [go_sem, h61, hd5, Int.reduceSub, Bool.and_false, Bool.false_and, Bool.or_false]
      exact ret _ c2 _ heq.symm (by simp [I64, upd_same]) hc62 (fun h => by rw [hts, htr2 h]; omega)
  · subst hk
    refine dc_of_go Tryz.func128 rfl (by simp) ?_
    refine drv_sound (n := 100) (rs := _) Tryz.func128 mo rfl none _ _ ?_
    simp (maxSteps := 9999999) only [go_sem, h61, hd5, Int.reduceSub, Bool.and_false, Bool.false_and, Bool.or_false]
    (repeat' with_reducible apply And.intro) <;> (try first | omega | (simp only [InK]; omega) | (intro k e; cases e; rfl) | (intro hguard; exact ⟨hguard, by simp only [InK]; omega⟩) | kernel_rfl)
    refine XK.plain (within t 0 _) ok70 ?_ (hbT ())
    refine drv_sound (n := 100) (rs := _) Tryz.func128 mo rfl (some _) _ _ ?_
    simp (maxSteps := 9999999) only [go_sem, h61, hd5, Int.reduceSub, Bool.and_false, Bool.false_and, Bool.or_false]
    refine XK.gplain 8 true (decide (0 ≤ t) && decide (t ≤ 0)) (fun _ => within c 1 3) ok70 ?_ (hbT ()) (hok := by intro hx; simp [okP, getCall, Call.operands, evT, upd, peelB, DB, DI, cst, one] at hx ⊢; first | done | exact hx | (simp_all; done) | omega)
    refine drv_sound (n := 100) (rs := _) Tryz.func128 mo rfl (some _) _ _ ?_
    simp (maxSteps := 9999999) only [go_sem, h61, hd5, Int.reduceSub, Bool.and_false, Bool.false_and, Bool.or_false]

    refine ⟨fun hno => ret _ (n + 1) _ (okS_false ?_) (by simp [I64, upd_same]) (by omega) (by simp), fun hyes => ?_⟩
    · unfold headOK parts blk; grind
    refine XK.gskip 1 true (DB false) ?_ (hbT ())
    refine drv_sound (n := 100) (rs := _) Tryz.func128 mo rfl (some _) _ _ ?_
    simp (maxSteps := 9999999) only [go_sem, h61, hd5, Int.reduceSub, Bool.and_false, Bool.false_and, Bool.or_false]
    refine XK.gskip 7 false (DB false) ?_ (hbT ())
    refine drv_sound (n := 100) (rs := _) Tryz.func128 mo rfl (some _) _ _ ?_
    simp (maxSteps := 9999999) only [go_sem, h61, hd5, Int.reduceSub, Bool.and_false, Bool.false_and, Bool.or_false]
    refine XK.gplain 17 true true (fun _ => isNone (.mk ik iv iks)) ok152 ?_ (hbT ()) (hok := by intro hx; simp [okP, getCall, Call.operands, evT, upd, peelB, DB, DI, cst, one] at hx ⊢; first | done | exact hx | (simp_all; done) | omega)
    refine drv_sound (n := 100) (rs := _) Tryz.func128 mo rfl (some _) _ _ ?_
    simp (maxSteps := 9999999) only [go_sem, h61, hd5, Int.reduceSub, Bool.and_false, Bool.false_and, Bool.or_false]
    refine XK.gskip 26 true (DB false) ?_ (hbT ())
    refine drv_sound (n := 100) (rs := _) Tryz.func128 mo rfl (some _) _ _ ?_
    simp (maxSteps := 9999999) only [go_sem, h61, hd5, Int.reduceSub, Bool.and_false, Bool.false_and, Bool.or_false]
    refine XK.gplain 37 true (none0 (.mk ik iv iks)) (fun _ => isNone (.mk vk vv vks)) ok152 ?_ (hbT ()) (hok := by intro hx; simp [okP, getCall, Call.operands, evT, upd, peelB, DB, DI, cst, one] at hx ⊢; first | done | exact hx | (simp_all; done) | omega)
    refine drv_sound (n := 100) (rs := _) Tryz.func128 mo rfl (some _) _ _ ?_
    simp (maxSteps := 9999999) only [go_sem, h61, hd5, Int.reduceSub, Bool.and_false, Bool.false_and, Bool.or_false]
    refine ⟨fun hno => ret _ (n + 1) _ (okS_false ?_) (by simp [I64, upd_same]) (by omega) (by simp), fun hyes2 => ?_⟩
    · unfold headOK parts blk; grind
    have hhead : headOK ⟨vs, ar, bd⟩ 4 t (.mk ik iv iks) (.mk vk vv vks) c b.length e.length = true := by unfold headOK parts blk; grind
    have heq := okS_true (d := d) (n := n) (b := b) (e := e) hhead
    have hts : tsize (d + 1) (.mk 4 t (.mk ik iv iks) (.mk vk vv vks) c b e) = 1 + lsize d b + lsize d e := by simp [tsize, lsize]
    (repeat' with_reducible apply And.intro) <;> (try first | omega | (simp only [InK]; omega) | (intro k e; cases e; rfl) | (intro hguard; exact ⟨hguard, by simp only [InK]; omega⟩) | kernel_rfl)
    refine XK.callG [0] (ih b (n + 1) (by omega)) ok90 (hhp_one rfl) (hbT ()) (fun d h' ⟨c', _, e, _⟩ => by subst e; simp) ?_
    rintro _ h' ⟨c1, rfl, rfl, hc61, htr⟩ _
    cases hb : okB ⟨vs, ar, bd⟩ d b (n + 1) with
    | false =>
      rw [hb] at heq
      refine drv_sound (n := 100) (rs := _) Tryz.func128 mo rfl (some _) _ _ ?_
      simp (maxSteps := 9999999) only [go_sem, hb, h61, hd5, Int.reduceSub, Bool.and_false, Bool.false_and, Bool.or_false]
      refine XK.gskip 7 true (DB false) ?_ (hbT ())
      refine drv_sound (n := 100) (rs := _) Tryz.func128 mo rfl (some _) _ _ ?_
      simp (maxSteps := 9999999) only [go_sem, h61, hd5, Int.reduceSub, Bool.and_false, Bool.false_and, Bool.or_false]
      exact ret _ c1 _ (by rw [heq]; rfl) (by simp [I64, upd_same]) hc61 (by simp)
    | true =>
      have hc1 := htr hb
      have hc160 : c1 ≤ 60 := by simp only [okB, Bool.and_eq_true, decide_eq_true_eq] at hb; omega
      rw [hb, Bool.true_and, ← hc1] at heq
      refine drv_sound (n := 100) (rs := _) Tryz.func128 mo rfl (some _) _ _ ?_
      simp (maxSteps := 9999999) only [go_sem, hb, h61, hd5, Int.reduceSub, Bool.and_false, Bool.false_and, Bool.or_false]
      (repeat' with_reducible apply And.intro) <;> (try first | omega | (simp only [InK]; omega) | (intro k e; cases e; rfl) | (intro hguard; exact ⟨hguard, by simp only [InK]; omega⟩) | kernel_rfl)
      refine XK.callT 7 true [0] (ih e c1 hc160) ok90 (hhp_one rfl) (hbT ()) (fun d h' ⟨c', _, e, _⟩ => by subst e; simp) ?_
      rintro _ h' ⟨c2, rfl, rfl, hc62, htr2⟩ _
      refine drv_sound (n := 100) (rs := _) Tryz.func128 mo rfl (some _) _ _ ?_
      simp (maxSteps := 9999999) only [go_sem, h61, hd5, Int.reduceSub, Bool.and_false, Bool.false_and, Bool.or_false]
      exact ret _ c2 _ heq.symm (by simp [I64, upd_same]) hc62 (fun h => by rw [hts, htr2 h]; omega)
  · have e1 : (k == 1) = false := by simp [h1]
    have e2 : (k == 2) = false := by simp [h2]
    have e3 : (k == 3) = false := by simp [h3]
    have e4 : (k == 4) = false := by simp [h4]
    have e5 : (k == 5) = false := by simp [h5]
    refine dc_of_go Tryz.func128 rfl (by simp) ?_
    refine drv_sound (n := 100) (rs := _) Tryz.func128 mo rfl none _ _ ?_
    simp (maxSteps := 9999999) only [go_sem, h61, hd5, e1, e2, e3, e4, e5, h1, h2, h3, h4, h5]
    (repeat' with_reducible apply And.intro) <;> (try first | omega | (simp only [InK]; omega) | (intro k e; cases e; rfl) | (intro hguard; exact ⟨hguard, by simp only [InK]; omega⟩) | kernel_rfl)
    refine ret _ (n + 1) _ (okS_false ?_) (by simp [I64, upd_same]) (by omega) (by simp)
    unfold headOK; grind
end Go.Proofs.YtmagbjbanpgmhaaGreat.CtR

namespace Go.Proofs.YtmagbjbanpgmhaaGreat.CtR
open Go Go.CT CtF

theorem stmt0 (p : Pg) (s : St1) (n : Nat) (hn : n ≤ 60) : DC Tryz.prog 128 [.agg p.cells, .agg s.cells, DI .i64 6, .c (.ptr 0 0)] [some [I64 n]] (stmtR p 0 s n) := by
  obtain ⟨vs, ar, bd⟩ := p
  obtain ⟨k, t, ⟨ik, iv, iks⟩, ⟨vk, vv, vks⟩, c, b, e⟩ := s
  refine dc_of_go Tryz.func128 rfl (by simp) ?_
  refine drv_sound (n := 100) (rs := _) Tryz.func128 mo rfl none _ _ ?_
  simp (maxSteps := 9999999) only [go_sem, Bool.or_true]
  refine ⟨by simp only [InK]; omega, ?_⟩
  exact RetOb.keep1 (d := DB false) (cs := [I64 (n + 1 : Nat)]) ⟨n + 1, by simp [okS, stmtOK], rfl, by omega, by simp [okS, stmtOK]⟩ (by simp [I64, upd_same]) (by simp [kf]) rfl

theorem stmts (p : Pg) (hl : p.vars.length ≤ mx) (hl2 : p.arrays.length ≤ mx) : ∀ (d : Nat) (deep : Int), 1 ≤ deep → deep + d = 6 → ∀ (l : List St1) (c : Nat), c ≤ 60 →
    DC Tryz.prog 90 [.agg p.cells, .c (.isl 11 (St1.cellsL l)), DI .i64 deep, .c (.ptr 0 0)] [some [I64 c]] (stmtsR p d l c)
  | 0, deep, h1, h, l, c, hc => stmtsOf p 0 deep h (fun s c hc => by obtain rfl : deep = 6 := by omega
                                                                     exact stmt0 p s c hc) l c hc
  | d + 1, deep, h1, h, l, c, hc => stmtsOf p (d + 1) deep h (fun s c hc => stmtOf p hl hl2 d deep h1 h (fun l c hc => stmts p hl hl2 d (deep + 1) (by omega) (by omega) l c hc) s c hc) l c hc

theorem programValidI (p : Pg) (hl : p.vars.length ≤ mx) (hl2 : p.arrays.length ≤ mx) : DC Tryz.prog 41 [.agg p.cells] [] (fun r h => r = DB (progOK p) ∧ h = []) := by
  obtain ⟨vs, ar, bd⟩ := p
  have hcast : decide ((lsize 5 bd : Int) ≤ 60) = decide (0 + lsize 5 bd ≤ 60) := decide_eq_decide.2 (by omega)
  refine dc_of_go Tryz.func41 rfl (by simp) ?_
  refine drv_sound (n := 100) (rs := _) Tryz.func41 mo rfl none _ _ ?_
  simp (maxSteps := 9999999) only [go_sem]
  refine XK.plain (declared vs ar hl hl2) ok89 ?_ (hbT ())
  cases hh : headsOK vs ar with
  | false =>
    refine drv_sound (n := 100) (rs := _) Tryz.func41 mo rfl (some _) _ _ ?_
    simp (maxSteps := 9999999) only [go_sem, hh]
    refine XK.gskip 5 true (DB false) ?_ (hbT ())
    refine drv_sound (n := 100) (rs := _) Tryz.func41 mo rfl (some _) _ _ ?_
    simp (maxSteps := 9999999) only [go_sem]
    refine RetOb.plain (d := DB false) ⟨?_, rfl⟩ rfl
    simp [progOK, hh]
  | true =>
    refine drv_sound (n := 100) (rs := _) Tryz.func41 mo rfl (some _) _ _ ?_
    simp (maxSteps := 9999999) only [go_sem, hh]
    refine XK.callT 5 true [128] (stmts ⟨vs, ar, bd⟩ hl hl2 5 1 (by omega) (by omega) bd 0 (by omega)) ok90 (hhp_one rfl) (hbT ()) (fun d h' ⟨c', _, e, _⟩ => by subst e; simp) ?_
    rintro _ h' ⟨c1, rfl, rfl, hc61, htr⟩ _
    refine drv_sound (n := 100) (rs := _) Tryz.func41 mo rfl (some _) _ _ ?_
    simp (maxSteps := 9999999) only [go_sem]
    refine RetOb.plain (d := DB _) ⟨?_, rfl⟩ rfl
    simp only [progOK, hh, hcast, okB, Bool.true_and]

end Go.Proofs.YtmagbjbanpgmhaaGreat.CtR

namespace Go.Proofs.YtmagbjbanpgmhaaGreat.CtR
open Go Go.CT CtF

theorem kf_I (xs : List Int) : ∀ c ∈ xs.map I64, kf c = true := by
  intro c hc; obtain ⟨x, _, rfl⟩ := List.mem_map.1 hc; rfl
theorem kf_A (xs : List (List Int)) : ∀ c ∈ xs.map isI, kf c = true := by
  intro c hc; obtain ⟨x, _, rfl⟩ := List.mem_map.1 hc; rfl
theorem flat_I (xs : List Int) : (xs.map fun n => [I64 n]).flatten = xs.map I64 := flat1 _ _
theorem flat_A (xs : List (List Int)) : (xs.map fun n => [isI n]).flatten = xs.map isI := flat1 _ _

/-- A result that is one new block. -/
theorem RetOb.new1 {R : D → List (Option (List C)) → Prop} {sz n k : Nat} {cs : List C} {hp : Hp} (hR : R (.c (.msl 0 sz 0 n)) [some cs]) (hb : hp k = some (some cs)) (hkf : ∀ c ∈ cs, kf c = true) : RetOb 0 R (.c (.msl k sz 0 n)) hp :=
  RetOb.of (fun j => if j = 0 then some k else none) [] (.c (.msl 0 sz 0 n)) [some cs] (subH_one rfl hb hkf) (by simp [DM, CM, hpL]) hR (by simp)
theorem RetOb.newNil {R : D → List (Option (List C)) → Prop} {sz : Nat} {hp : Hp} (hR : R (.c (.msl 0 sz 0 0)) [some []]) : RetOb 0 R (.c (.v (.slice none 0 0))) hp :=
  RetOb.of (fun j => none) [] (.c (.msl 0 sz 0 0)) [some []] ⟨fun k cs h => by
    match k with
    | 0 => simp [hpL] at h; exact .inr ⟨rfl, h⟩
    | k + 1 => simp [hpL] at h, fun k k' cs cs' j _ _ h => by simp at h, fun k h => by omega⟩ (by simp [DM, CM, hpL]) hR (by simp)

theorem cloneI (xs : List Int) (hl : xs.length ≤ 1000000) : DC Tryz.prog 52 [ints xs] [] (fun d h => d = .c (.msl 0 1 0 xs.length) ∧ h = [some (xs.map I64)]) := by
  have hmx := mx_eq
  cases xs with
  | nil =>
    refine DC.isl0 fun a c => ?_
    refine dc_of_go Tryz.func52 rfl (by simp) ?_
    refine drv_sound (n := 100) (rs := _) Tryz.func52 mo rfl none _ _ ?_
    cases a with
    | none =>
      simp (maxSteps := 9999999) only [go_sem, ints, isI, I64]
      exact RetOb.newNil ⟨rfl, rfl⟩
    | some a =>
      simp (maxSteps := 9999999) only [go_sem, ints, isI, I64]
      refine ⟨fun k e => by cases e; rfl, RetOb.new1 ⟨rfl, rfl⟩ (upd_same _ _ _) (by simp)⟩
  | cons a r =>
    have hr : r.length + 1 ≤ 1000000 := hl
    have hf := congrArg List.length (flat_I (a :: r))
    simp only [List.map_cons, List.length_cons, List.length_map, isI, I64] at hf
    refine dc_of_go Tryz.func52 rfl (by simp) ?_
    refine drv_sound (n := 100) (rs := _) Tryz.func52 mo rfl none _ _ ?_
    simp (maxSteps := 9999999) only [go_sem, ints, isI, I64]
    refine ⟨⟨fun k e => by cases e; rfl, by first | exact hf | simpa using hf, by omega, by omega⟩, RetOb.new1 ⟨rfl, rfl⟩ ?_ (kf_I (a :: r))⟩
    rw [← flat_I]
    exact upd_same _ _ _

theorem cloneA (xs : List (List Int)) (hl : xs.length ≤ 1000000) : DC Tryz.prog 85 [.c (.isl 1 (xs.map fun a => [isI a]))] [] (fun d h => d = .c (.msl 0 1 0 xs.length) ∧ h = [some (xs.map isI)]) := by
  have hmx := mx_eq
  cases xs with
  | nil =>
    refine DC.isl0 fun a c => ?_
    refine dc_of_go Tryz.func85 rfl (by simp) ?_
    refine drv_sound (n := 100) (rs := _) Tryz.func85 mo rfl none _ _ ?_
    cases a with
    | none =>
      simp (maxSteps := 9999999) only [go_sem, ints, isI, I64]
      exact RetOb.newNil ⟨rfl, rfl⟩
    | some a =>
      simp (maxSteps := 9999999) only [go_sem, ints, isI, I64]
      refine ⟨fun k e => by cases e; rfl, RetOb.new1 ⟨rfl, rfl⟩ (upd_same _ _ _) (by simp)⟩
  | cons a r =>
    have hr : r.length + 1 ≤ 1000000 := hl
    have hf := congrArg List.length (flat_A (a :: r))
    simp only [List.map_cons, List.length_cons, List.length_map, isI, I64] at hf
    refine dc_of_go Tryz.func85 rfl (by simp) ?_
    refine drv_sound (n := 100) (rs := _) Tryz.func85 mo rfl none _ _ ?_
    simp (maxSteps := 9999999) only [go_sem, ints, isI, I64]
    refine ⟨⟨fun k e => by cases e; rfl, by first | exact hf | simpa using hf, by omega, by omega⟩, RetOb.new1 ⟨rfl, rfl⟩ ?_ (kf_A (a :: r))⟩
    rw [← flat_A]
    exact upd_same _ _ _

end Go.Proofs.YtmagbjbanpgmhaaGreat.CtR

namespace Go.Proofs.YtmagbjbanpgmhaaGreat.CtR
open Go Go.CT CtF

/-- A memory's blocks: values, heads of the arrays, two arrays. -/
def hdr (b b' na : Nat) : List C := [C.msl b 1 0 4, .msl b' 1 0 4].take na
def blk0 (arr : List (List Int)) : List C := ((arr[0]?).getD []).map I64
def blk1 (arr : List (List Int)) : List C := ((arr[1]?).getD []).map I64
def memB (b : Nat) (m : Mm) : List (Option (List C)) := [some (m.vals.map I64), some (hdr b (b + 1) m.arrays.length), some (blk0 m.arrays), some (blk1 m.arrays)]

theorem CMs_I {hT hS : Hp} {r : Nat → Option Nat} {fz : List Nat} (xs : List Int) : CMs hT r hS fz (xs.map I64) (xs.map I64) = True := eq_true (CMs.kf (kf_I xs))
theorem flat_I' (xs : List Int) : (xs.map fun n => [C.v (.int .i64 n)]).flatten = xs.map I64 := flat1 _ _

end Go.Proofs.YtmagbjbanpgmhaaGreat.CtR

namespace Go.Proofs.YtmagbjbanpgmhaaGreat.CtR
open Go Go.CT CtF

theorem renCs_I (r : Nat → Nat) (xs : List Int) : renCs r (xs.map I64) = xs.map I64 := by
  induction xs with
  | nil => rfl
  | cons a t ih => simp only [List.map_cons, renCs, ih]; rfl

def trC (tr : List Ev) : List C := (tr.map Ev.cells).flatten
theorem trC_kf (tr : List Ev) : ∀ c ∈ trC tr, kf c = true := by
  unfold trC
  induction tr with
  | nil => simp
  | cons a t ih =>
    intro c hc
    rw [List.map_cons, List.flatten_cons, List.mem_append] at hc
    rcases hc with hc | hc
    · simp only [Ev.cells, List.mem_cons, List.not_mem_nil, or_false] at hc
      rcases hc with rfl | rfl <;> rfl
    · exact ih c hc
theorem CMs_tr {hT hS : Hp} {r : Nat → Option Nat} {fz : List Nat} (tr : List Ev) : CMs hT r hS fz (trC tr) (trC tr) = True := eq_true (CMs.kf (trC_kf tr))

theorem own (m : Mm) (hv : m.vals.length ≤ 1000) (ha : m.arrays.length ≤ 2) (h4 : ∀ a ∈ m.arrays, a.length = 4) : DC Tryz.prog 39 [.agg m.cells] [] (fun d h => d = .agg [.msl 0 1 0 m.vals.length, .msl 1 1 0 m.arrays.length] ∧ h = memB 2 m) := by
  have hmx := mx_eq
  obtain ⟨va, arr⟩ := m
  have hv : va.length ≤ 1000 := hv
  have ha2 : arr.length ≤ 2 := ha
  refine dc_of_go Tryz.func39 rfl (by simp) ?_
  refine drv_sound (n := 100) (rs := _) Tryz.func39 mo rfl none _ _ ?_
  simp (maxSteps := 9999999) only [go_sem, Mm.cells, isI, I64, Int.reduceLT, renCs_I]
  (repeat' with_reducible apply And.intro) <;> (try first | omega | (simp only [InK]; omega) | (intro k e; cases e; rfl) | (intro hguard; exact ⟨hguard, by simp only [InK]; omega⟩) | kernel_rfl)
  refine XK.callG [] (cloneI va (by omega)) ok52 (fun i' x h => by simp at h) (hbT ()) (fun d h' ⟨_, e⟩ => by subst e; simp) ?_ (fun _ => ⟨by kernel_rfl, _, _, ⟨rfl, rfl⟩, Nat.zero_le _⟩)
  rintro _ _ ⟨rfl, rfl⟩ _
  refine drv_sound (n := 100) (rs := _) Tryz.func39 mo rfl (some _) _ _ ?_
  simp (maxSteps := 9999999) only [go_sem, Mm.cells, isI, I64, Int.reduceLT, renCs_I]
  (repeat' with_reducible apply And.intro) <;> (try first | omega | (simp only [InK]; omega) | (intro k e; cases e; rfl) | (intro hguard; exact ⟨hguard, by simp only [InK]; omega⟩) | kernel_rfl)
  refine XK.callG [] (cloneA arr (by omega)) ok85 (fun i' x h => by simp at h) (hbT ()) (fun d h' ⟨_, e⟩ => by subst e; simp) ?_ (fun _ => ⟨by kernel_rfl, _, _, ⟨rfl, rfl⟩, Nat.zero_le _⟩)
  rintro _ _ ⟨rfl, rfl⟩ _
  refine drv_sound (n := 100) (rs := _) Tryz.func39 mo rfl (some _) _ _ ?_
  simp (maxSteps := 9999999) only [go_sem, Mm.cells, isI, I64, Int.reduceLT, renCs_I]
  (repeat' with_reducible apply And.intro) <;> (try first | omega | (simp only [InK]; omega) | (intro k e; cases e; rfl) | (intro hguard; exact ⟨hguard, by simp only [InK]; omega⟩) | kernel_rfl)
  match arr, ha, h4 with
  | [], _, _ =>
    refine Go.loop ?_
    refine drv_sound (n := 100) (rs := _) Tryz.func39 mo rfl none _ _ ?_
    simp (maxSteps := 9999999) only [go_sem, Mm.cells, isI, I64, Int.reduceLT, renCs_I]
    refine RetOb.ofQ (fun j => if j = 0 then some 256 else if j = 1 then some 448 else none) [] (.agg [.msl 0 1 0 va.length, .msl 1 1 0 0]) (memB 2 ⟨va, []⟩) ?_ ⟨rfl, rfl⟩ (by simp)
    simp [memB, enumL, hOf, hdr, blk0, blk1, DM, CM, CMs, HpOK, LowOK, upd, CMs_I, isI]
  | [a], _, h4 =>
    have h4a : a.length = 4 := h4 a (by simp)
    refine Go.loop ?_
    refine drv_sound (n := 100) (rs := _) Tryz.func39 mo rfl none _ _ ?_
    simp (maxSteps := 9999999) only [go_sem, Mm.cells, isI, I64, Int.reduceLT, renCs_I]
    (repeat' with_reducible apply And.intro) <;> (try first | omega | (simp only [InK]; omega) | (intro k e; cases e; rfl) | (intro hguard; exact ⟨hguard, by simp only [InK]; omega⟩) | kernel_rfl)
    refine XK.callG [] (cloneI a (by omega)) ok52 (fun i' x h => by simp at h) (hbT ()) (fun d h' ⟨_, e⟩ => by subst e; simp) ?_ (fun _ => ⟨by kernel_rfl, _, _, ⟨rfl, rfl⟩, Nat.zero_le _⟩)
    rintro _ _ ⟨rfl, rfl⟩ _
    refine drv_sound (n := 100) (rs := _) Tryz.func39 mo rfl (some _) _ _ ?_
    simp (maxSteps := 9999999) only [go_sem, Mm.cells, isI, I64, Int.reduceLT, renCs_I]
    (repeat' with_reducible apply And.intro) <;> (try first | omega | (simp only [InK]; omega) | (intro k e; cases e; rfl) | (intro hguard; exact ⟨hguard, by simp only [InK]; omega⟩) | kernel_rfl)
    refine Go.inLoop ?_
    refine drv_sound (n := 100) (rs := _) Tryz.func39 mo rfl none _ _ ?_
    simp (maxSteps := 9999999) only [go_sem, Mm.cells, isI, I64, Int.reduceLT, renCs_I]
    refine RetOb.ofQ (fun j => if j = 0 then some 256 else if j = 1 then some 448 else if j = 2 then some 1664 else none) [] (.agg [.msl 0 1 0 va.length, .msl 1 1 0 1]) (memB 2 ⟨va, [a]⟩) ?_ ⟨rfl, rfl⟩ (by simp)
    simp [memB, enumL, hOf, hdr, blk0, blk1, DM, CM, CMs, HpOK, LowOK, upd, CMs_I, isI, h4a]
  | [a, b], _, h4 =>
    have h4a : a.length = 4 := h4 a (by simp)
    have h4b : b.length = 4 := h4 b (by simp)
    refine Go.loop ?_
    refine drv_sound (n := 100) (rs := _) Tryz.func39 mo rfl none _ _ ?_
    simp (maxSteps := 9999999) only [go_sem, Mm.cells, isI, I64, Int.reduceLT, renCs_I]
    (repeat' with_reducible apply And.intro) <;> (try first | omega | (simp only [InK]; omega) | (intro k e; cases e; rfl) | (intro hguard; exact ⟨hguard, by simp only [InK]; omega⟩) | kernel_rfl)
    refine XK.callG [] (cloneI a (by omega)) ok52 (fun i' x h => by simp at h) (hbT ()) (fun d h' ⟨_, e⟩ => by subst e; simp) ?_ (fun _ => ⟨by kernel_rfl, _, _, ⟨rfl, rfl⟩, Nat.zero_le _⟩)
    rintro _ _ ⟨rfl, rfl⟩ _
    refine drv_sound (n := 100) (rs := _) Tryz.func39 mo rfl (some _) _ _ ?_
    simp (maxSteps := 9999999) only [go_sem, Mm.cells, isI, I64, Int.reduceLT, renCs_I]
    (repeat' with_reducible apply And.intro) <;> (try first | omega | (simp only [InK]; omega) | (intro k e; cases e; rfl) | (intro hguard; exact ⟨hguard, by simp only [InK]; omega⟩) | kernel_rfl)
    refine Go.inLoop ?_
    refine drv_sound (n := 100) (rs := _) Tryz.func39 mo rfl none _ _ ?_
    simp (maxSteps := 9999999) only [go_sem, Mm.cells, isI, I64, Int.reduceLT, renCs_I]
    (repeat' with_reducible apply And.intro) <;> (try first | omega | (simp only [InK]; omega) | (intro k e; cases e; rfl) | (intro hguard; exact ⟨hguard, by simp only [InK]; omega⟩) | kernel_rfl)
    refine XK.callG [] (cloneI b (by omega)) ok52 (fun i' x h => by simp at h) (hbT ()) (fun d h' ⟨_, e⟩ => by subst e; simp) ?_ (fun _ => ⟨by kernel_rfl, _, _, ⟨rfl, rfl⟩, Nat.zero_le _⟩)
    rintro _ _ ⟨rfl, rfl⟩ _
    refine drv_sound (n := 100) (rs := _) Tryz.func39 mo rfl (some _) _ _ ?_
    simp (maxSteps := 9999999) only [go_sem, Mm.cells, isI, I64, Int.reduceLT, renCs_I]
    (repeat' with_reducible apply And.intro) <;> (try first | omega | (simp only [InK]; omega) | (intro k e; cases e; rfl) | (intro hguard; exact ⟨hguard, by simp only [InK]; omega⟩) | kernel_rfl)
    refine Go.inLoop ?_
    refine drv_sound (n := 100) (rs := _) Tryz.func39 mo rfl none _ _ ?_
    simp (maxSteps := 9999999) only [go_sem, Mm.cells, isI, I64, Int.reduceLT, renCs_I]
    refine RetOb.ofQ (fun j => if j = 0 then some 256 else if j = 1 then some 448 else if j = 2 then some 1664 else if j = 3 then some 2624 else none) [] (.agg [.msl 0 1 0 va.length, .msl 1 1 0 2]) (memB 2 ⟨va, [a, b]⟩) ?_ ⟨rfl, rfl⟩ (by simp)
    simp [memB, enumL, hOf, hdr, blk0, blk1, DM, CM, CMs, HpOK, LowOK, upd, CMs_I, isI, h4a, h4b]
end Go.Proofs.YtmagbjbanpgmhaaGreat.CtR

namespace Go.Proofs.YtmagbjbanpgmhaaGreat.CtR
open Go Go.CT CtF

def nth (l : List Int) (i : Int) : Int := l.getD i.toNat 0
/-- A memory that belongs to a program. -/
structure MemFits (p : Pg) (m : Mm) : Prop where
  nv : m.vals.length = p.vars.length
  na : m.arrays.length = p.arrays.length
  nv12 : 1 ≤ p.vars.length ∧ p.vars.length ≤ 12
  na2 : p.arrays.length ≤ 2
  val : ∀ x ∈ m.vals, 0 ≤ x ∧ x ≤ 255
  arr : ∀ a ∈ m.arrays, a.length = 4 ∧ ∀ x ∈ a, 0 ≤ x ∧ x ≤ 255

theorem nth_mem {l : List Int} {i : Int} (h : 0 ≤ i) (h2 : i < l.length) : l[i.toNat]? = some (nth l i) ∧ nth l i ∈ l := by
  have h3 : i.toNat < l.length := by omega
  have e : l[i.toNat]? = some l[i.toNat] := List.getElem?_eq_getElem h3
  have e2 : nth l i = l[i.toNat] := by simp [nth, List.getD, e]
  rw [e2]
  exact ⟨e, List.getElem_mem h3⟩
end Go.Proofs.YtmagbjbanpgmhaaGreat.CtR

namespace Go.Proofs.YtmagbjbanpgmhaaGreat.CtR
open Go Go.CT CtF

theorem kf_app {a b : List C} (h1 : ∀ c ∈ a, kf c = true) (h2 : ∀ c ∈ b, kf c = true) : ∀ c ∈ a ++ b, kf c = true := fun c hc => (List.mem_append.1 hc).elim (h1 c) (h2 c)
end Go.Proofs.YtmagbjbanpgmhaaGreat.CtR

namespace Go.Proofs.YtmagbjbanpgmhaaGreat.CtR
open Go Go.CT CtF

/-! An execution's state in the program itself: a block [values, arrays, events], the events, then the memory's four blocks. -/

end Go.Proofs.YtmagbjbanpgmhaaGreat.CtR

namespace Go.Proofs.YtmagbjbanpgmhaaGreat.CtR
open Go Go.CT CtF

end Go.Proofs.YtmagbjbanpgmhaaGreat.CtR
