/- Contracts of functions of the program, one behind the other, as plain data: what each call returns and which blocks it leaves. -/
import Derived.Test.YtpphageokplgoaaGreatPFacts
import Derived.Test.YtpphageokplgoaaGreatPAk
import Derived.Test.YtpphageokplgoaaGreatPAl
import Derived.Test.YtpphageokplgoaaGreatPAiX
set_option linter.unusedVariables false
set_option linter.unusedSimpArgs false
set_option maxHeartbeats 16000000
set_option maxRecDepth 100000
namespace Go.Proofs.YtpphageokplgoaaGreat.CtR
open Go Go.CT CtF
theorem okS_false {p : Pg} {d : Nat} {k t : Int} {ix v : Ex} {c : Int} {b e : List St1} {n : Nat} (h : headOK p k t ix v c b.length e.length = false) : false = okS p (d + 1) (.mk k t ix v c b e) n := by
 simp [okS, stmtOK, h]
theorem okS_true {p : Pg} {d : Nat} {k t : Int} {ix v : Ex} {c : Int} {b e : List St1} {n : Nat} (h : headOK p k t ix v c b.length e.length = true) :
 okS p (d + 1) (.mk k t ix v c b e) n = (okB p d b (n + 1) && okB p d e (n + 1 + lsize d b)) := by
 have ht : tsize (d + 1) (.mk k t ix v c b e) = 1 + lsize d b + lsize d e := by simp [tsize, lsize]
 rw [okS, ht, stmtOK, h]
 simp only [okB, Bool.true_and]
 rw [Bool.eq_iff_iff]
 simp only [Bool.and_eq_true, decide_eq_true_eq]
 generalize lsize d b = x
 generalize lsize d e = y
 constructor
 ·rintro ⟨⟨h1, h2⟩, h3⟩; exact ⟨⟨h1, by omega⟩, h2, by omega⟩
 ·rintro ⟨⟨h1, h2⟩, h3, h4⟩; exact ⟨⟨h1, h3⟩, by omega⟩
theorem stmtOf (p : Pg) (hl : p.vars.length ≤ mx) (hl2 : p.arrays.length ≤ mx) (d : Nat) (deep : Int) (hdeep : 1 ≤ deep) (hsum : deep + (d + 1 : Nat) = 6)
 (ih : ∀ (l : List St1) (c : Nat), c ≤ 60 → DC Tryz.prog 60 [.agg p.cells, .c (.isl 11 (St1.cellsL l)), DI .i64 (deep + 1), .c (.ptr 0 0)] [some [I64 c]] (stmtsR p d l c))
 (s : St1) (n : Nat) (hn : n ≤ 60) : DC Tryz.prog 109 [.agg p.cells, .agg s.cells, DI .i64 deep, .c (.ptr 0 0)] [some [I64 n]] (stmtR p (d + 1) s n) := by
 obtain ⟨vs, ar, bd⟩ := p
 have hl : vs.length ≤ mx := hl
 have hl2 : ar.length ≤ mx := hl2
 have hmx := mx_eq
 obtain ⟨k, t, ⟨ik, iv, iks⟩, ⟨vk, vv, vks⟩, c, b, e⟩ := s
 have ret : ∀ (q : Bool) (c' : Nat) (hp : Hp), q = okS ⟨vs, ar, bd⟩ (d + 1) (.mk k t (.mk ik iv iks) (.mk vk vv vks) c b e) n → hp 0 = some (some [I64 c']) → c' ≤ 61 → (q = true → c' = n + tsize (d + 1) (.mk k t (.mk ik iv iks) (.mk vk vv vks) c b e)) →
  RetOb 1 (stmtR ⟨vs, ar, bd⟩ (d + 1) (.mk k t (.mk ik iv iks) (.mk vk vv vks) c b e) n) (DB q) hp :=
  fun q c' hp hb hhp h16 ht => RetOb.keep1 (d := DB q) (cs := [I64 c']) ⟨c', by rw [hb], rfl, h16, by rw [← hb]; exact ht⟩ hhp (by simp [kf]) rfl
 have hd5 : (5 < deep) = False := eq_false (by omega)
 have hx := fun x => expr ⟨vs, ar, bd⟩ x hl hl2
 by_cases hn60 : n = 60
 ·have h61 : (60 < (n : Int) + 1) = True := eq_true (by omega)
  refine dc_of_go Tryz.func109 rfl (by simp) ?_
  refine drv_sound (n := 100) (rs := _) Tryz.func109 mo rfl none _ _ ?_
  simp (maxSteps := 9999999) only [go_sem, h61]
  refine ⟨by simp only [InK]; omega, ret _ (n + 1) _ ?_ (by simp [I64, upd_same]) (by omega) (by simp)⟩
  symm
  simp only [okS]
  rw [Bool.and_eq_false_iff]
  right
  have := tsize_pos (d := d) (.mk k t (.mk ik iv iks) (.mk vk vv vks) c b e)
  simp; omega
 have h61 : (60 < (n : Int) + 1) = False := eq_false (by omega)
 rcases (by omega : k = 1 ∨ k = 5 ∨ k = 2 ∨ k = 3 ∨ k = 4 ∨ (k ≠ 1 ∧ k ≠ 5 ∧ k ≠ 2 ∧ k ≠ 3 ∧ k ≠ 4)) with hk | hk | hk | hk | hk | ⟨h1, h5, h2, h3, h4⟩
 ·subst hk
  refine dc_of_go Tryz.func109 rfl (by simp) ?_
  refine drv_sound (n := 100) (rs := _) Tryz.func109 mo rfl none _ _ ?_
  simp (maxSteps := 9999999) only [go_sem, h61, hd5, Int.reduceSub, Bool.and_false, Bool.false_and, Bool.or_false]
  (repeat' with_reducible apply And.intro) <;> (try first | omega | (simp only [InK]; omega) | (intro k e; cases e; rfl) | (intro hguard; exact ⟨hguard, by simp only [InK]; omega⟩) | kernel_rfl)
  refine XK.plain (within t 0 _) ok63 ?_ (hbT ())
  refine drv_sound (n := 100) (rs := _) Tryz.func109 mo rfl (some _) _ _ ?_
  simp (maxSteps := 9999999) only [go_sem, h61, hd5, Int.reduceSub, Bool.and_false, Bool.false_and, Bool.or_false]
  refine XK.gskip 8 true (DB false) ?_ (hbT ())
  refine drv_sound (n := 100) (rs := _) Tryz.func109 mo rfl (some _) _ _ ?_
  simp (maxSteps := 9999999) only [go_sem, h61, hd5, Int.reduceSub, Bool.and_false, Bool.false_and, Bool.or_false]
  refine ⟨fun hno => ret _ (n + 1) _ (okS_false ?_) (by simp [I64, upd_same]) (by omega) (by simp), fun hyes => ?_⟩
  ·unfold headOK parts blk; grind
  refine XK.gskip 1 true (DB false) ?_ (hbT ())
  refine drv_sound (n := 100) (rs := _) Tryz.func109 mo rfl (some _) _ _ ?_
  simp (maxSteps := 9999999) only [go_sem, h61, hd5, Int.reduceSub, Bool.and_false, Bool.false_and, Bool.or_false]
  refine XK.gskip 7 false (DB false) ?_ (hbT ())
  refine drv_sound (n := 100) (rs := _) Tryz.func109 mo rfl (some _) _ _ ?_
  simp (maxSteps := 9999999) only [go_sem, h61, hd5, Int.reduceSub, Bool.and_false, Bool.false_and, Bool.or_false]
  refine XK.gplain 17 true true (fun _ => isNone (.mk ik iv iks)) ok156 ?_ (hbT ()) (hok := by intro hx; simp [okP, getCall, Call.operands, evT, upd, peelB, DB, DI, cst, one] at hx ⊢; first | done | exact hx | (simp_all; done) | omega)
  refine drv_sound (n := 100) (rs := _) Tryz.func109 mo rfl (some _) _ _ ?_
  simp (maxSteps := 9999999) only [go_sem, h61, hd5, Int.reduceSub, Bool.and_false, Bool.false_and, Bool.or_false]
  refine XK.gplain 26 true (none0 (.mk ik iv iks)) (fun _ => hx (.mk vk vv vks)) ok154 ?_ (hbT ()) (hok := by intro hx; simp [okP, getCall, Call.operands, evT, upd, peelB, DB, DI, cst, one] at hx ⊢; first | done | exact hx | (simp_all; done) | omega)
  refine drv_sound (n := 100) (rs := _) Tryz.func109 mo rfl (some _) _ _ ?_
  simp (maxSteps := 9999999) only [go_sem, h61, hd5, Int.reduceSub, Bool.and_false, Bool.false_and, Bool.or_false]
  refine XK.gskip 37 true (DB false) ?_ (hbT ())
  refine drv_sound (n := 100) (rs := _) Tryz.func109 mo rfl (some _) _ _ ?_
  simp (maxSteps := 9999999) only [go_sem, h61, hd5, Int.reduceSub, Bool.and_false, Bool.false_and, Bool.or_false]
  refine ⟨fun hno => ret _ (n + 1) _ (okS_false ?_) (by simp [I64, upd_same]) (by omega) (by simp), fun hyes2 => ?_⟩
  ·unfold headOK parts blk; grind
  have hhead : headOK ⟨vs, ar, bd⟩ 1 t (.mk ik iv iks) (.mk vk vv vks) c b.length e.length = true := by unfold headOK parts blk; grind
  have heq := okS_true (d := d) (n := n) (b := b) (e := e) hhead
  have hts : tsize (d + 1) (.mk 1 t (.mk ik iv iks) (.mk vk vv vks) c b e) = 1 + lsize d b + lsize d e := by simp [tsize, lsize]
  (repeat' with_reducible apply And.intro) <;> (try first | omega | (simp only [InK]; omega) | (intro k e; cases e; rfl) | (intro hguard; exact ⟨hguard, by simp only [InK]; omega⟩) | kernel_rfl)
  refine XK.callG [0] (ih b (n + 1) (by omega)) ok60 (hhp_one rfl) (hbT ()) (fun d h' ⟨c', _, e, _⟩ => by subst e; simp) ?_
  rintro _ h' ⟨c1, rfl, rfl, hc61, htr⟩ _
  cases hb : okB ⟨vs, ar, bd⟩ d b (n + 1) with
  | false =>
   rw [hb] at heq
   refine drv_sound (n := 100) (rs := _) Tryz.func109 mo rfl (some _) _ _ ?_
   simp (maxSteps := 9999999) only [go_sem, hb, h61, hd5, Int.reduceSub, Bool.and_false, Bool.false_and, Bool.or_false]
   refine XK.gskip 7 true (DB false) ?_ (hbT ())
   refine drv_sound (n := 100) (rs := _) Tryz.func109 mo rfl (some _) _ _ ?_
   simp (maxSteps := 9999999) only [go_sem, h61, hd5, Int.reduceSub, Bool.and_false, Bool.false_and, Bool.or_false]
   exact ret _ c1 _ (by rw [heq]; rfl) (by simp [I64, upd_same]) hc61 (by simp)
  | true =>
   have hc1 := htr hb
   have hc160 : c1 ≤ 60 := by simp only [okB, Bool.and_eq_true, decide_eq_true_eq] at hb; omega
   rw [hb, Bool.true_and, ← hc1] at heq
   refine drv_sound (n := 100) (rs := _) Tryz.func109 mo rfl (some _) _ _ ?_
   simp (maxSteps := 9999999) only [go_sem, hb, h61, hd5, Int.reduceSub, Bool.and_false, Bool.false_and, Bool.or_false]
   (repeat' with_reducible apply And.intro) <;> (try first | omega | (simp only [InK]; omega) | (intro k e; cases e; rfl) | (intro hguard; exact ⟨hguard, by simp only [InK]; omega⟩) | kernel_rfl)
   refine XK.callT 7 true [0] (ih e c1 hc160) ok60 (hhp_one rfl) (hbT ()) (fun d h' ⟨c', _, e, _⟩ => by subst e; simp) ?_
   rintro _ h' ⟨c2, rfl, rfl, hc62, htr2⟩ _
   refine drv_sound (n := 100) (rs := _) Tryz.func109 mo rfl (some _) _ _ ?_
   simp (maxSteps := 9999999) only [go_sem, h61, hd5, Int.reduceSub, Bool.and_false, Bool.false_and, Bool.or_false]
   exact ret _ c2 _ heq.symm (by simp [I64, upd_same]) hc62 (fun h => by rw [hts, htr2 h]; omega)
 ·subst hk
  refine dc_of_go Tryz.func109 rfl (by simp) ?_
  refine drv_sound (n := 100) (rs := _) Tryz.func109 mo rfl none _ _ ?_
  simp (maxSteps := 9999999) only [go_sem, h61, hd5, Int.reduceSub, Bool.and_false, Bool.false_and, Bool.or_false]
  (repeat' with_reducible apply And.intro) <;> (try first | omega | (simp only [InK]; omega) | (intro k e; cases e; rfl) | (intro hguard; exact ⟨hguard, by simp only [InK]; omega⟩) | kernel_rfl)
  refine XK.plain (within t 0 _) ok63 ?_ (hbT ())
  refine drv_sound (n := 100) (rs := _) Tryz.func109 mo rfl (some _) _ _ ?_
  simp (maxSteps := 9999999) only [go_sem, h61, hd5, Int.reduceSub, Bool.and_false, Bool.false_and, Bool.or_false]
  refine XK.gskip 8 true (DB false) ?_ (hbT ())
  refine drv_sound (n := 100) (rs := _) Tryz.func109 mo rfl (some _) _ _ ?_
  simp (maxSteps := 9999999) only [go_sem, h61, hd5, Int.reduceSub, Bool.and_false, Bool.false_and, Bool.or_false]
  refine ⟨fun hno => ret _ (n + 1) _ (okS_false ?_) (by simp [I64, upd_same]) (by omega) (by simp), fun hyes => ?_⟩
  ·unfold headOK parts blk; grind
  refine XK.gskip 1 true (DB false) ?_ (hbT ())
  refine drv_sound (n := 100) (rs := _) Tryz.func109 mo rfl (some _) _ _ ?_
  simp (maxSteps := 9999999) only [go_sem, h61, hd5, Int.reduceSub, Bool.and_false, Bool.false_and, Bool.or_false]
  refine XK.gskip 7 false (DB false) ?_ (hbT ())
  refine drv_sound (n := 100) (rs := _) Tryz.func109 mo rfl (some _) _ _ ?_
  simp (maxSteps := 9999999) only [go_sem, h61, hd5, Int.reduceSub, Bool.and_false, Bool.false_and, Bool.or_false]
  refine XK.gplain 17 true true (fun _ => isNone (.mk ik iv iks)) ok156 ?_ (hbT ()) (hok := by intro hx; simp [okP, getCall, Call.operands, evT, upd, peelB, DB, DI, cst, one] at hx ⊢; first | done | exact hx | (simp_all; done) | omega)
  refine drv_sound (n := 100) (rs := _) Tryz.func109 mo rfl (some _) _ _ ?_
  simp (maxSteps := 9999999) only [go_sem, h61, hd5, Int.reduceSub, Bool.and_false, Bool.false_and, Bool.or_false]
  refine XK.gplain 26 true (none0 (.mk ik iv iks)) (fun _ => hx (.mk vk vv vks)) ok154 ?_ (hbT ()) (hok := by intro hx; simp [okP, getCall, Call.operands, evT, upd, peelB, DB, DI, cst, one] at hx ⊢; first | done | exact hx | (simp_all; done) | omega)
  refine drv_sound (n := 100) (rs := _) Tryz.func109 mo rfl (some _) _ _ ?_
  simp (maxSteps := 9999999) only [go_sem, h61, hd5, Int.reduceSub, Bool.and_false, Bool.false_and, Bool.or_false]
  refine XK.gskip 37 true (DB false) ?_ (hbT ())
  refine drv_sound (n := 100) (rs := _) Tryz.func109 mo rfl (some _) _ _ ?_
  simp (maxSteps := 9999999) only [go_sem, h61, hd5, Int.reduceSub, Bool.and_false, Bool.false_and, Bool.or_false]
  refine ⟨fun hno => ret _ (n + 1) _ (okS_false ?_) (by simp [I64, upd_same]) (by omega) (by simp), fun hyes2 => ?_⟩
  ·unfold headOK parts blk; grind
  have hhead : headOK ⟨vs, ar, bd⟩ 5 t (.mk ik iv iks) (.mk vk vv vks) c b.length e.length = true := by unfold headOK parts blk; grind
  have heq := okS_true (d := d) (n := n) (b := b) (e := e) hhead
  have hts : tsize (d + 1) (.mk 5 t (.mk ik iv iks) (.mk vk vv vks) c b e) = 1 + lsize d b + lsize d e := by simp [tsize, lsize]
  (repeat' with_reducible apply And.intro) <;> (try first | omega | (simp only [InK]; omega) | (intro k e; cases e; rfl) | (intro hguard; exact ⟨hguard, by simp only [InK]; omega⟩) | kernel_rfl)
  refine XK.callG [0] (ih b (n + 1) (by omega)) ok60 (hhp_one rfl) (hbT ()) (fun d h' ⟨c', _, e, _⟩ => by subst e; simp) ?_
  rintro _ h' ⟨c1, rfl, rfl, hc61, htr⟩ _
  cases hb : okB ⟨vs, ar, bd⟩ d b (n + 1) with
  | false =>
   rw [hb] at heq
   refine drv_sound (n := 100) (rs := _) Tryz.func109 mo rfl (some _) _ _ ?_
   simp (maxSteps := 9999999) only [go_sem, hb, h61, hd5, Int.reduceSub, Bool.and_false, Bool.false_and, Bool.or_false]
   refine XK.gskip 7 true (DB false) ?_ (hbT ())
   refine drv_sound (n := 100) (rs := _) Tryz.func109 mo rfl (some _) _ _ ?_
   simp (maxSteps := 9999999) only [go_sem, h61, hd5, Int.reduceSub, Bool.and_false, Bool.false_and, Bool.or_false]
   exact ret _ c1 _ (by rw [heq]; rfl) (by simp [I64, upd_same]) hc61 (by simp)
  | true =>
   have hc1 := htr hb
   have hc160 : c1 ≤ 60 := by simp only [okB, Bool.and_eq_true, decide_eq_true_eq] at hb; omega
   rw [hb, Bool.true_and, ← hc1] at heq
   refine drv_sound (n := 100) (rs := _) Tryz.func109 mo rfl (some _) _ _ ?_
   simp (maxSteps := 9999999) only [go_sem, hb, h61, hd5, Int.reduceSub, Bool.and_false, Bool.false_and, Bool.or_false]
   (repeat' with_reducible apply And.intro) <;> (try first | omega | (simp only [InK]; omega) | (intro k e; cases e; rfl) | (intro hguard; exact ⟨hguard, by simp only [InK]; omega⟩) | kernel_rfl)
   refine XK.callT 7 true [0] (ih e c1 hc160) ok60 (hhp_one rfl) (hbT ()) (fun d h' ⟨c', _, e, _⟩ => by subst e; simp) ?_
   rintro _ h' ⟨c2, rfl, rfl, hc62, htr2⟩ _
   refine drv_sound (n := 100) (rs := _) Tryz.func109 mo rfl (some _) _ _ ?_
   simp (maxSteps := 9999999) only [go_sem, h61, hd5, Int.reduceSub, Bool.and_false, Bool.false_and, Bool.or_false]
   exact ret _ c2 _ heq.symm (by simp [I64, upd_same]) hc62 (fun h => by rw [hts, htr2 h]; omega)
 ·subst hk
  refine dc_of_go Tryz.func109 rfl (by simp) ?_
  refine drv_sound (n := 100) (rs := _) Tryz.func109 mo rfl none _ _ ?_
  simp (maxSteps := 9999999) only [go_sem, h61, hd5, Int.reduceSub, Bool.and_false, Bool.false_and, Bool.or_false]
  (repeat' with_reducible apply And.intro) <;> (try first | omega | (simp only [InK]; omega) | (intro k e; cases e; rfl) | (intro hguard; exact ⟨hguard, by simp only [InK]; omega⟩) | kernel_rfl)
  refine XK.plain (within t 0 _) ok63 ?_ (hbT ())
  refine drv_sound (n := 100) (rs := _) Tryz.func109 mo rfl (some _) _ _ ?_
  simp (maxSteps := 9999999) only [go_sem, h61, hd5, Int.reduceSub, Bool.and_false, Bool.false_and, Bool.or_false]
  refine XK.gskip 8 true (DB false) ?_ (hbT ())
  refine drv_sound (n := 100) (rs := _) Tryz.func109 mo rfl (some _) _ _ ?_
  simp (maxSteps := 9999999) only [go_sem, h61, hd5, Int.reduceSub, Bool.and_false, Bool.false_and, Bool.or_false]
  refine ⟨fun hno => ret _ (n + 1) _ (okS_false ?_) (by simp [I64, upd_same]) (by omega) (by simp), fun hyes => ?_⟩
  ·unfold headOK parts blk; grind
  refine XK.gplain 1 true true (fun _ => hx (.mk ik iv iks)) ok154 ?_ (hbT ()) (hok := by intro hx; simp [okP, getCall, Call.operands, evT, upd, peelB, DB, DI, cst, one] at hx ⊢; first | done | exact hx | (simp_all; done) | omega)
  refine drv_sound (n := 100) (rs := _) Tryz.func109 mo rfl (some _) _ _ ?_
  simp (maxSteps := 9999999) only [go_sem, h61, hd5, Int.reduceSub, Bool.and_false, Bool.false_and, Bool.or_false]
  refine XK.gplain 7 false (right ⟨vs, ar, bd⟩ (.mk ik iv iks)) (fun _ => isPlain (.mk ik iv iks)) ok155 ?_ (hbT ()) (hok := by intro hx; simp [okP, getCall, Call.operands, evT, upd, peelB, DB, DI, cst, one] at hx ⊢; first | done | exact hx | (simp_all; done) | omega)
  refine drv_sound (n := 100) (rs := _) Tryz.func109 mo rfl (some _) _ _ ?_
  simp (maxSteps := 9999999) only [go_sem, h61, hd5, Int.reduceSub, Bool.and_false, Bool.false_and, Bool.or_false]
  refine XK.gskip 17 true (DB false) ?_ (hbT ())
  refine drv_sound (n := 100) (rs := _) Tryz.func109 mo rfl (some _) _ _ ?_
  simp (maxSteps := 9999999) only [go_sem, h61, hd5, Int.reduceSub, Bool.and_false, Bool.false_and, Bool.or_false]
  refine XK.gplain 26 true (right ⟨vs, ar, bd⟩ (.mk ik iv iks) && atom (.mk ik iv iks)) (fun _ => hx (.mk vk vv vks)) ok154 ?_ (hbT ()) (hok := by intro hx; simp [okP, getCall, Call.operands, evT, upd, peelB, DB, DI, cst, one] at hx ⊢; first | done | exact hx | (simp_all; done) | omega)
  refine drv_sound (n := 100) (rs := _) Tryz.func109 mo rfl (some _) _ _ ?_
  simp (maxSteps := 9999999) only [go_sem, h61, hd5, Int.reduceSub, Bool.and_false, Bool.false_and, Bool.or_false]
  refine XK.gskip 37 true (DB false) ?_ (hbT ())
  refine drv_sound (n := 100) (rs := _) Tryz.func109 mo rfl (some _) _ _ ?_
  simp (maxSteps := 9999999) only [go_sem, h61, hd5, Int.reduceSub, Bool.and_false, Bool.false_and, Bool.or_false]
  refine ⟨fun hno => ret _ (n + 1) _ (okS_false ?_) (by simp [I64, upd_same]) (by omega) (by simp), fun hyes2 => ?_⟩
  ·unfold headOK parts blk; grind
  have hhead : headOK ⟨vs, ar, bd⟩ 2 t (.mk ik iv iks) (.mk vk vv vks) c b.length e.length = true := by unfold headOK parts blk; grind
  have heq := okS_true (d := d) (n := n) (b := b) (e := e) hhead
  have hts : tsize (d + 1) (.mk 2 t (.mk ik iv iks) (.mk vk vv vks) c b e) = 1 + lsize d b + lsize d e := by simp [tsize, lsize]
  (repeat' with_reducible apply And.intro) <;> (try first | omega | (simp only [InK]; omega) | (intro k e; cases e; rfl) | (intro hguard; exact ⟨hguard, by simp only [InK]; omega⟩) | kernel_rfl)
  refine XK.callG [0] (ih b (n + 1) (by omega)) ok60 (hhp_one rfl) (hbT ()) (fun d h' ⟨c', _, e, _⟩ => by subst e; simp) ?_
  rintro _ h' ⟨c1, rfl, rfl, hc61, htr⟩ _
  cases hb : okB ⟨vs, ar, bd⟩ d b (n + 1) with
  | false =>
   rw [hb] at heq
   refine drv_sound (n := 100) (rs := _) Tryz.func109 mo rfl (some _) _ _ ?_
   simp (maxSteps := 9999999) only [go_sem, hb, h61, hd5, Int.reduceSub, Bool.and_false, Bool.false_and, Bool.or_false]
   refine XK.gskip 7 true (DB false) ?_ (hbT ())
   refine drv_sound (n := 100) (rs := _) Tryz.func109 mo rfl (some _) _ _ ?_
   simp (maxSteps := 9999999) only [go_sem, h61, hd5, Int.reduceSub, Bool.and_false, Bool.false_and, Bool.or_false]
   exact ret _ c1 _ (by rw [heq]; rfl) (by simp [I64, upd_same]) hc61 (by simp)
  | true =>
   have hc1 := htr hb
   have hc160 : c1 ≤ 60 := by simp only [okB, Bool.and_eq_true, decide_eq_true_eq] at hb; omega
   rw [hb, Bool.true_and, ← hc1] at heq
   refine drv_sound (n := 100) (rs := _) Tryz.func109 mo rfl (some _) _ _ ?_
   simp (maxSteps := 9999999) only [go_sem, hb, h61, hd5, Int.reduceSub, Bool.and_false, Bool.false_and, Bool.or_false]
   (repeat' with_reducible apply And.intro) <;> (try first | omega | (simp only [InK]; omega) | (intro k e; cases e; rfl) | (intro hguard; exact ⟨hguard, by simp only [InK]; omega⟩) | kernel_rfl)
   refine XK.callT 7 true [0] (ih e c1 hc160) ok60 (hhp_one rfl) (hbT ()) (fun d h' ⟨c', _, e, _⟩ => by subst e; simp) ?_
   rintro _ h' ⟨c2, rfl, rfl, hc62, htr2⟩ _
   refine drv_sound (n := 100) (rs := _) Tryz.func109 mo rfl (some _) _ _ ?_
   simp (maxSteps := 9999999) only [go_sem, h61, hd5, Int.reduceSub, Bool.and_false, Bool.false_and, Bool.or_false]
   exact ret _ c2 _ heq.symm (by simp [I64, upd_same]) hc62 (fun h => by rw [hts, htr2 h]; omega)
 ·subst hk
  refine dc_of_go Tryz.func109 rfl (by simp) ?_
  refine drv_sound (n := 100) (rs := _) Tryz.func109 mo rfl none _ _ ?_
  simp (maxSteps := 9999999) only [go_sem, h61, hd5, Int.reduceSub, Bool.and_false, Bool.false_and, Bool.or_false]
  (repeat' with_reducible apply And.intro) <;> (try first | omega | (simp only [InK]; omega) | (intro k e; cases e; rfl) | (intro hguard; exact ⟨hguard, by simp only [InK]; omega⟩) | kernel_rfl)
  refine XK.plain (within t 0 _) ok63 ?_ (hbT ())
  refine drv_sound (n := 100) (rs := _) Tryz.func109 mo rfl (some _) _ _ ?_
  simp (maxSteps := 9999999) only [go_sem, h61, hd5, Int.reduceSub, Bool.and_false, Bool.false_and, Bool.or_false]
  refine XK.gskip 8 true (DB false) ?_ (hbT ())
  refine drv_sound (n := 100) (rs := _) Tryz.func109 mo rfl (some _) _ _ ?_
  simp (maxSteps := 9999999) only [go_sem, h61, hd5, Int.reduceSub, Bool.and_false, Bool.false_and, Bool.or_false]
  refine ⟨fun hno => ret _ (n + 1) _ (okS_false ?_) (by simp [I64, upd_same]) (by omega) (by simp), fun hyes => ?_⟩
  ·unfold headOK parts blk; grind
  refine XK.gskip 1 true (DB false) ?_ (hbT ())
  refine drv_sound (n := 100) (rs := _) Tryz.func109 mo rfl (some _) _ _ ?_
  simp (maxSteps := 9999999) only [go_sem, h61, hd5, Int.reduceSub, Bool.and_false, Bool.false_and, Bool.or_false]
  refine XK.gskip 7 false (DB false) ?_ (hbT ())
  refine drv_sound (n := 100) (rs := _) Tryz.func109 mo rfl (some _) _ _ ?_
  simp (maxSteps := 9999999) only [go_sem, h61, hd5, Int.reduceSub, Bool.and_false, Bool.false_and, Bool.or_false]
  refine XK.gplain 17 true true (fun _ => isNone (.mk ik iv iks)) ok156 ?_ (hbT ()) (hok := by intro hx; simp [okP, getCall, Call.operands, evT, upd, peelB, DB, DI, cst, one] at hx ⊢; first | done | exact hx | (simp_all; done) | omega)
  refine drv_sound (n := 100) (rs := _) Tryz.func109 mo rfl (some _) _ _ ?_
  simp (maxSteps := 9999999) only [go_sem, h61, hd5, Int.reduceSub, Bool.and_false, Bool.false_and, Bool.or_false]
  refine XK.gplain 26 true (none0 (.mk ik iv iks)) (fun _ => hx (.mk vk vv vks)) ok154 ?_ (hbT ()) (hok := by intro hx; simp [okP, getCall, Call.operands, evT, upd, peelB, DB, DI, cst, one] at hx ⊢; first | done | exact hx | (simp_all; done) | omega)
  refine drv_sound (n := 100) (rs := _) Tryz.func109 mo rfl (some _) _ _ ?_
  simp (maxSteps := 9999999) only [go_sem, h61, hd5, Int.reduceSub, Bool.and_false, Bool.false_and, Bool.or_false]
  refine XK.gskip 37 true (DB false) ?_ (hbT ())
  refine drv_sound (n := 100) (rs := _) Tryz.func109 mo rfl (some _) _ _ ?_
  simp (maxSteps := 9999999) only [go_sem, h61, hd5, Int.reduceSub, Bool.and_false, Bool.false_and, Bool.or_false]
  refine ⟨fun hno => ret _ (n + 1) _ (okS_false ?_) (by simp [I64, upd_same]) (by omega) (by simp), fun hyes2 => ?_⟩
  ·unfold headOK parts blk; grind
  have hhead : headOK ⟨vs, ar, bd⟩ 3 t (.mk ik iv iks) (.mk vk vv vks) c b.length e.length = true := by unfold headOK parts blk; grind
  have heq := okS_true (d := d) (n := n) (b := b) (e := e) hhead
  have hts : tsize (d + 1) (.mk 3 t (.mk ik iv iks) (.mk vk vv vks) c b e) = 1 + lsize d b + lsize d e := by simp [tsize, lsize]
  (repeat' with_reducible apply And.intro) <;> (try first | omega | (simp only [InK]; omega) | (intro k e; cases e; rfl) | (intro hguard; exact ⟨hguard, by simp only [InK]; omega⟩) | kernel_rfl)
  refine XK.callG [0] (ih b (n + 1) (by omega)) ok60 (hhp_one rfl) (hbT ()) (fun d h' ⟨c', _, e, _⟩ => by subst e; simp) ?_
  rintro _ h' ⟨c1, rfl, rfl, hc61, htr⟩ _
  cases hb : okB ⟨vs, ar, bd⟩ d b (n + 1) with
  | false =>
   rw [hb] at heq
   refine drv_sound (n := 100) (rs := _) Tryz.func109 mo rfl (some _) _ _ ?_
   simp (maxSteps := 9999999) only [go_sem, hb, h61, hd5, Int.reduceSub, Bool.and_false, Bool.false_and, Bool.or_false]
   refine XK.gskip 7 true (DB false) ?_ (hbT ())
   refine drv_sound (n := 100) (rs := _) Tryz.func109 mo rfl (some _) _ _ ?_
   simp (maxSteps := 9999999) only [go_sem, h61, hd5, Int.reduceSub, Bool.and_false, Bool.false_and, Bool.or_false]
   exact ret _ c1 _ (by rw [heq]; rfl) (by simp [I64, upd_same]) hc61 (by simp)
  | true =>
   have hc1 := htr hb
   have hc160 : c1 ≤ 60 := by simp only [okB, Bool.and_eq_true, decide_eq_true_eq] at hb; omega
   rw [hb, Bool.true_and, ← hc1] at heq
   refine drv_sound (n := 100) (rs := _) Tryz.func109 mo rfl (some _) _ _ ?_
   simp (maxSteps := 9999999) only [go_sem, hb, h61, hd5, Int.reduceSub, Bool.and_false, Bool.false_and, Bool.or_false]
   (repeat' with_reducible apply And.intro) <;> (try first | omega | (simp only [InK]; omega) | (intro k e; cases e; rfl) | (intro hguard; exact ⟨hguard, by simp only [InK]; omega⟩) | kernel_rfl)
   refine XK.callT 7 true [0] (ih e c1 hc160) ok60 (hhp_one rfl) (hbT ()) (fun d h' ⟨c', _, e, _⟩ => by subst e; simp) ?_
   rintro _ h' ⟨c2, rfl, rfl, hc62, htr2⟩ _
   refine drv_sound (n := 100) (rs := _) Tryz.func109 mo rfl (some _) _ _ ?_
   simp (maxSteps := 9999999) only [go_sem, h61, hd5, Int.reduceSub, Bool.and_false, Bool.false_and, Bool.or_false]
   exact ret _ c2 _ heq.symm (by simp [I64, upd_same]) hc62 (fun h => by rw [hts, htr2 h]; omega)
 ·subst hk
  refine dc_of_go Tryz.func109 rfl (by simp) ?_
  refine drv_sound (n := 100) (rs := _) Tryz.func109 mo rfl none _ _ ?_
  simp (maxSteps := 9999999) only [go_sem, h61, hd5, Int.reduceSub, Bool.and_false, Bool.false_and, Bool.or_false]
  (repeat' with_reducible apply And.intro) <;> (try first | omega | (simp only [InK]; omega) | (intro k e; cases e; rfl) | (intro hguard; exact ⟨hguard, by simp only [InK]; omega⟩) | kernel_rfl)
  refine XK.plain (within t 0 _) ok63 ?_ (hbT ())
  refine drv_sound (n := 100) (rs := _) Tryz.func109 mo rfl (some _) _ _ ?_
  simp (maxSteps := 9999999) only [go_sem, h61, hd5, Int.reduceSub, Bool.and_false, Bool.false_and, Bool.or_false]
  refine XK.gplain 8 true (decide (0 ≤ t) && decide (t ≤ 0)) (fun _ => within c 1 3) ok63 ?_ (hbT ()) (hok := by intro hx; simp [okP, getCall, Call.operands, evT, upd, peelB, DB, DI, cst, one] at hx ⊢; first | done | exact hx | (simp_all; done) | omega)
  refine drv_sound (n := 100) (rs := _) Tryz.func109 mo rfl (some _) _ _ ?_
  simp (maxSteps := 9999999) only [go_sem, h61, hd5, Int.reduceSub, Bool.and_false, Bool.false_and, Bool.or_false]
  refine ⟨fun hno => ret _ (n + 1) _ (okS_false ?_) (by simp [I64, upd_same]) (by omega) (by simp), fun hyes => ?_⟩
  ·unfold headOK parts blk; grind
  refine XK.gskip 1 true (DB false) ?_ (hbT ())
  refine drv_sound (n := 100) (rs := _) Tryz.func109 mo rfl (some _) _ _ ?_
  simp (maxSteps := 9999999) only [go_sem, h61, hd5, Int.reduceSub, Bool.and_false, Bool.false_and, Bool.or_false]
  refine XK.gskip 7 false (DB false) ?_ (hbT ())
  refine drv_sound (n := 100) (rs := _) Tryz.func109 mo rfl (some _) _ _ ?_
  simp (maxSteps := 9999999) only [go_sem, h61, hd5, Int.reduceSub, Bool.and_false, Bool.false_and, Bool.or_false]
  refine XK.gplain 17 true true (fun _ => isNone (.mk ik iv iks)) ok156 ?_ (hbT ()) (hok := by intro hx; simp [okP, getCall, Call.operands, evT, upd, peelB, DB, DI, cst, one] at hx ⊢; first | done | exact hx | (simp_all; done) | omega)
  refine drv_sound (n := 100) (rs := _) Tryz.func109 mo rfl (some _) _ _ ?_
  simp (maxSteps := 9999999) only [go_sem, h61, hd5, Int.reduceSub, Bool.and_false, Bool.false_and, Bool.or_false]
  refine XK.gskip 26 true (DB false) ?_ (hbT ())
  refine drv_sound (n := 100) (rs := _) Tryz.func109 mo rfl (some _) _ _ ?_
  simp (maxSteps := 9999999) only [go_sem, h61, hd5, Int.reduceSub, Bool.and_false, Bool.false_and, Bool.or_false]
  refine XK.gplain 37 true (none0 (.mk ik iv iks)) (fun _ => isNone (.mk vk vv vks)) ok156 ?_ (hbT ()) (hok := by intro hx; simp [okP, getCall, Call.operands, evT, upd, peelB, DB, DI, cst, one] at hx ⊢; first | done | exact hx | (simp_all; done) | omega)
  refine drv_sound (n := 100) (rs := _) Tryz.func109 mo rfl (some _) _ _ ?_
  simp (maxSteps := 9999999) only [go_sem, h61, hd5, Int.reduceSub, Bool.and_false, Bool.false_and, Bool.or_false]
  refine ⟨fun hno => ret _ (n + 1) _ (okS_false ?_) (by simp [I64, upd_same]) (by omega) (by simp), fun hyes2 => ?_⟩
  ·unfold headOK parts blk; grind
  have hhead : headOK ⟨vs, ar, bd⟩ 4 t (.mk ik iv iks) (.mk vk vv vks) c b.length e.length = true := by unfold headOK parts blk; grind
  have heq := okS_true (d := d) (n := n) (b := b) (e := e) hhead
  have hts : tsize (d + 1) (.mk 4 t (.mk ik iv iks) (.mk vk vv vks) c b e) = 1 + lsize d b + lsize d e := by simp [tsize, lsize]
  (repeat' with_reducible apply And.intro) <;> (try first | omega | (simp only [InK]; omega) | (intro k e; cases e; rfl) | (intro hguard; exact ⟨hguard, by simp only [InK]; omega⟩) | kernel_rfl)
  refine XK.callG [0] (ih b (n + 1) (by omega)) ok60 (hhp_one rfl) (hbT ()) (fun d h' ⟨c', _, e, _⟩ => by subst e; simp) ?_
  rintro _ h' ⟨c1, rfl, rfl, hc61, htr⟩ _
  cases hb : okB ⟨vs, ar, bd⟩ d b (n + 1) with
  | false =>
   rw [hb] at heq
   refine drv_sound (n := 100) (rs := _) Tryz.func109 mo rfl (some _) _ _ ?_
   simp (maxSteps := 9999999) only [go_sem, hb, h61, hd5, Int.reduceSub, Bool.and_false, Bool.false_and, Bool.or_false]
   refine XK.gskip 7 true (DB false) ?_ (hbT ())
   refine drv_sound (n := 100) (rs := _) Tryz.func109 mo rfl (some _) _ _ ?_
   simp (maxSteps := 9999999) only [go_sem, h61, hd5, Int.reduceSub, Bool.and_false, Bool.false_and, Bool.or_false]
   exact ret _ c1 _ (by rw [heq]; rfl) (by simp [I64, upd_same]) hc61 (by simp)
  | true =>
   have hc1 := htr hb
   have hc160 : c1 ≤ 60 := by simp only [okB, Bool.and_eq_true, decide_eq_true_eq] at hb; omega
   rw [hb, Bool.true_and, ← hc1] at heq
   refine drv_sound (n := 100) (rs := _) Tryz.func109 mo rfl (some _) _ _ ?_
   simp (maxSteps := 9999999) only [go_sem, hb, h61, hd5, Int.reduceSub, Bool.and_false, Bool.false_and, Bool.or_false]
   (repeat' with_reducible apply And.intro) <;> (try first | omega | (simp only [InK]; omega) | (intro k e; cases e; rfl) | (intro hguard; exact ⟨hguard, by simp only [InK]; omega⟩) | kernel_rfl)
   refine XK.callT 7 true [0] (ih e c1 hc160) ok60 (hhp_one rfl) (hbT ()) (fun d h' ⟨c', _, e, _⟩ => by subst e; simp) ?_
   rintro _ h' ⟨c2, rfl, rfl, hc62, htr2⟩ _
   refine drv_sound (n := 100) (rs := _) Tryz.func109 mo rfl (some _) _ _ ?_
   simp (maxSteps := 9999999) only [go_sem, h61, hd5, Int.reduceSub, Bool.and_false, Bool.false_and, Bool.or_false]
   exact ret _ c2 _ heq.symm (by simp [I64, upd_same]) hc62 (fun h => by rw [hts, htr2 h]; omega)
 ·have e1 : (k == 1) = false := by simp [h1]
  have e2 : (k == 2) = false := by simp [h2]
  have e3 : (k == 3) = false := by simp [h3]
  have e4 : (k == 4) = false := by simp [h4]
  have e5 : (k == 5) = false := by simp [h5]
  refine dc_of_go Tryz.func109 rfl (by simp) ?_
  refine drv_sound (n := 100) (rs := _) Tryz.func109 mo rfl none _ _ ?_
  simp (maxSteps := 9999999) only [go_sem, h61, hd5, e1, e2, e3, e4, e5, h1, h2, h3, h4, h5]
  (repeat' with_reducible apply And.intro) <;> (try first | omega | (simp only [InK]; omega) | (intro k e; cases e; rfl) | (intro hguard; exact ⟨hguard, by simp only [InK]; omega⟩) | kernel_rfl)
  refine ret _ (n + 1) _ (okS_false ?_) (by simp [I64, upd_same]) (by omega) (by simp)
  unfold headOK; grind
end Go.Proofs.YtpphageokplgoaaGreat.CtR
namespace Go.Proofs.YtpphageokplgoaaGreat.CtR
open Go Go.CT CtF
theorem stmt0 (p : Pg) (s : St1) (n : Nat) (hn : n ≤ 60) : DC Tryz.prog 109 [.agg p.cells, .agg s.cells, DI .i64 6, .c (.ptr 0 0)] [some [I64 n]] (stmtR p 0 s n) := by
 obtain ⟨vs, ar, bd⟩ := p
 obtain ⟨k, t, ⟨ik, iv, iks⟩, ⟨vk, vv, vks⟩, c, b, e⟩ := s
 refine dc_of_go Tryz.func109 rfl (by simp) ?_
 refine drv_sound (n := 100) (rs := _) Tryz.func109 mo rfl none _ _ ?_
 simp (maxSteps := 9999999) only [go_sem, Bool.or_true]
 refine ⟨by simp only [InK]; omega, ?_⟩
 exact RetOb.keep1 (d := DB false) (cs := [I64 (n + 1 : Nat)]) ⟨n + 1, by simp [okS, stmtOK], rfl, by omega, by simp [okS, stmtOK]⟩ (by simp [I64, upd_same]) (by simp [kf]) rfl
theorem stmts (p : Pg) (hl : p.vars.length ≤ mx) (hl2 : p.arrays.length ≤ mx) : ∀ (d : Nat) (deep : Int), 1 ≤ deep → deep + d = 6 → ∀ (l : List St1) (c : Nat), c ≤ 60 →
 DC Tryz.prog 60 [.agg p.cells, .c (.isl 11 (St1.cellsL l)), DI .i64 deep, .c (.ptr 0 0)] [some [I64 c]] (stmtsR p d l c)
 | 0, deep, h1, h, l, c, hc => stmtsOf p 0 deep h (fun s c hc => by obtain rfl : deep = 6 := by omega
                                                                    exact stmt0 p s c hc) l c hc
 | d + 1, deep, h1, h, l, c, hc => stmtsOf p (d + 1) deep h (fun s c hc => stmtOf p hl hl2 d deep h1 h (fun l c hc => stmts p hl hl2 d (deep + 1) (by omega) (by omega) l c hc) s c hc) l c hc
theorem programValidI (p : Pg) (hl : p.vars.length ≤ mx) (hl2 : p.arrays.length ≤ mx) : DC Tryz.prog 20 [.agg p.cells] [] (fun r h => r = DB (progOK p) ∧ h = []) := by
 obtain ⟨vs, ar, bd⟩ := p
 have hcast : decide ((lsize 5 bd : Int) ≤ 60) = decide (0 + lsize 5 bd ≤ 60) := decide_eq_decide.2 (by omega)
 refine dc_of_go Tryz.func20 rfl (by simp) ?_
 refine drv_sound (n := 100) (rs := _) Tryz.func20 mo rfl none _ _ ?_
 simp (maxSteps := 9999999) only [go_sem]
 refine XK.plain (declared vs ar hl hl2) ok59 ?_ (hbT ())
 cases hh : headsOK vs ar with
 | false =>
  refine drv_sound (n := 100) (rs := _) Tryz.func20 mo rfl (some _) _ _ ?_
  simp (maxSteps := 9999999) only [go_sem, hh]
  refine XK.gskip 5 true (DB false) ?_ (hbT ())
  refine drv_sound (n := 100) (rs := _) Tryz.func20 mo rfl (some _) _ _ ?_
  simp (maxSteps := 9999999) only [go_sem]
  refine RetOb.plain (d := DB false) ⟨?_, rfl⟩ rfl
  simp [progOK, hh]
 | true =>
  refine drv_sound (n := 100) (rs := _) Tryz.func20 mo rfl (some _) _ _ ?_
  simp (maxSteps := 9999999) only [go_sem, hh]
  refine XK.callT 5 true [128] (stmts ⟨vs, ar, bd⟩ hl hl2 5 1 (by omega) (by omega) bd 0 (by omega)) ok60 (hhp_one rfl) (hbT ()) (fun d h' ⟨c', _, e, _⟩ => by subst e; simp) ?_
  rintro _ h' ⟨c1, rfl, rfl, hc61, htr⟩ _
  refine drv_sound (n := 100) (rs := _) Tryz.func20 mo rfl (some _) _ _ ?_
  simp (maxSteps := 9999999) only [go_sem]
  refine RetOb.plain (d := DB _) ⟨?_, rfl⟩ rfl
  simp only [progOK, hh, hcast, okB, Bool.true_and]
def arrOK (a : List Int) : Bool := decide ((a.length : Int) = 4) && vals01 a
def memOK (vs ar : List Int) (m : Mm) : Bool := decide ((m.vals.length : Int) = vs.length) && decide ((m.arrays.length : Int) = ar.length) && vals01 m.vals && m.arrays.all arrOK
theorem isMemory1 (a : List Int) : DC Tryz.prog 118 [ints a] [] (fun r h => r = DB (!arrOK a) ∧ h = []) := by
 have hmx := mx_eq
 refine dc_of_go Tryz.func118 rfl (by simp) ?_
 refine drv_sound (n := 100) (rs := _) Tryz.func118 mo rfl none _ _ ?_
 simp (maxSteps := 9999999) only [go_sem, ints]
 refine XK.gplain 3 false (!((a.length : Int) != 4)) (fun h => areValues a (by simp at h; omega)) ok116 ?_ (hok := by intro hx; simp [okP, getCall, Call.operands, evT, upd, peelB, DB, DI, cst, one] at hx ⊢; first | done | exact hx | (simp_all; done) | omega)
 refine drv_sound (n := 100) (rs := _) Tryz.func118 mo rfl (some _) _ _ ?_
 simp (maxSteps := 9999999) only [go_sem, ints]
 refine RetOb.plain (d := DB _) ⟨?_, rfl⟩ rfl
 simp only [DB]; congr 3; unfold arrOK; grind
def idxA (q : List Int → Bool) : List (List Int) → Int → Int
 | [], _ => -1
 | x :: r, i => if q x then i else idxA q r (i + 1)
theorem idxA_any (q : List Int → Bool) : ∀ (xs : List (List Int)) (i : Int), 0 ≤ i → decide (0 ≤ idxA q xs i) = xs.any q
 | [], i, _ => by simp [idxA]
 | x :: r, i, h => by
  unfold idxA
  by_cases hq : q x = true
  ·simp [hq, h]
  ·simp only [hq, Bool.false_eq_true, if_false, List.any_cons, Bool.not_eq_true] at *
   rw [idxA_any q r (i + 1) (by omega)]; simp [hq]
theorem indexFuncA (g : Nat) (q : List Int → Bool) (xs : List (List Int)) (hl : xs.length ≤ mx) (hok : fnOK Tryz.prog g = true) (hg : ∀ n ∈ xs, DC Tryz.prog g [ints n] [] (fun d h => d = DB (q n) ∧ h = [])) :
 DC Tryz.prog 174 [.c (.isl 1 (xs.map fun a => [isI a])), .c (.clo g [])] [] (fun d h => d = DI .i64 (idxA q xs 0) ∧ h = []) := by
 have hmx := mx_eq
 refine dc_of_go Tryz.func174 rfl (by simp) ?_
 refine drv_sound (n := 100) (rs := _) Tryz.func174 mo rfl none _ _ ?_
 simp (maxSteps := 9999999) only [go_sem, isI, I64]
 refine Go.loopL (fun i : Nat => [(0, .c (.isl 1 (xs.map fun a => [isI a]))), (1, .c (.clo g [])), (7, DI .i64 xs.length), (8, DI .i64 i)]) (fun _ => []) 1024 (fun i => i ≤ xs.length ∧ idxA q (xs.drop i) i = idxA q xs 0) (fun i => xs.length - i) ?_ 0 some [] _ ⟨Nat.zero_le _, rfl⟩ ?_
 ·intro i hi again
  refine drv_sound (n := 100) (rs := _) Tryz.func174 mo rfl none _ _ ?_
  rcases Nat.lt_or_ge i xs.length with hlt | hge
  ·obtain ⟨x, hx⟩ : ∃ x, xs[i]? = some x := ⟨xs[i], by simp [hlt]⟩
   have hmem : x ∈ xs := List.mem_of_getElem? hx
   have hdrop : xs.drop i = x :: xs.drop (i + 1) := by
    obtain ⟨_, e⟩ := List.getElem?_eq_some_iff.1 hx
    rw [List.drop_eq_getElem_cons hlt, e]
   have hI := hi.2
   rw [hdrop] at hI
   simp (maxSteps := 9999999) only [go_sem, isI, I64, hx, hlt]
   refine XK.plain (hg x hmem) hok ?_
   refine drv_sound (n := 100) (rs := _) Tryz.func174 mo rfl (some _) _ _ ?_
   simp (maxSteps := 9999999) only [go_sem, isI, I64]
   refine ⟨fun hq => ?_, fun hq => ⟨by simp only [InK]; omega, ?_⟩⟩
   ·refine RetOb.plain (d := DI .i64 _) ⟨?_, rfl⟩ rfl
    rw [← hI]; simp [idxA, hq, DI]
   ·refine again (i + 1) some [] _ ⟨by omega, ?_⟩ (by omega) (Mt.slots ?_)
    ·rw [← hI]; simp [idxA, hq]
    ·simp (maxSteps := 9999999) only [go_sem, TmOK, DM, DMs, CM, CMs, forall_eq, exists_eq_left, isI, I64]
  ·have hn : ¬ i < xs.length := by omega
   simp (maxSteps := 9999999) only [go_sem, isI, I64, hn]
   refine RetOb.plain (d := DI .i64 _) ⟨?_, rfl⟩ rfl
   rw [← hi.2, List.drop_of_length_le hge]; rfl
 ·refine Mt.slots ?_
  simp (maxSteps := 9999999) only [go_sem, TmOK, DM, DMs, CM, CMs, forall_eq, exists_eq_left, isI, I64]
theorem containsFuncA (g : Nat) (q : List Int → Bool) (xs : List (List Int)) (hl : xs.length ≤ mx) (hok : fnOK Tryz.prog g = true) (hg : ∀ n ∈ xs, DC Tryz.prog g [ints n] [] (fun d h => d = DB (q n) ∧ h = [])) :
 DC Tryz.prog 117 [.c (.isl 1 (xs.map fun a => [isI a])), .c (.clo g [])] [] (fun d h => d = DB (xs.any q) ∧ h = []) := by
 refine dc_of_go Tryz.func117 rfl (by simp) ?_
 refine drv_sound (n := 100) (rs := _) Tryz.func117 mo rfl none _ _ ?_
 simp (maxSteps := 9999999) only [go_sem, isI, I64]
 refine XK.plain (indexFuncA g q xs hl hok hg) ok174 ?_
 refine drv_sound (n := 100) (rs := _) Tryz.func117 mo rfl (some _) _ _ ?_
 simp (maxSteps := 9999999) only [go_sem, isI, I64]
 refine RetOb.plain (d := DB _) ⟨?_, rfl⟩ rfl
 simp only [DB]; rw [idxA_any q xs 0 (by omega)]
theorem isMemory (vs ar : List Int) (m : Mm) (hl : vs.length ≤ mx) (hl2 : ar.length ≤ mx) : DC Tryz.prog 71 [ints vs, ints ar, .agg m.cells] [] (fun r h => r = DB (memOK vs ar m) ∧ h = []) := by
 obtain ⟨va, arr⟩ := m
 have hmx := mx_eq
 refine dc_of_go Tryz.func71 rfl (by simp) ?_
 refine drv_sound (n := 100) (rs := _) Tryz.func71 mo rfl none _ _ ?_
 simp (maxSteps := 9999999) only [go_sem, ints, Mm.cells, isI, I64]
 refine XK.gplain 14 false (!(((va.length : Int) != vs.length) || ((arr.length : Int) != ar.length))) (fun h => areValues va (by simp at h; omega)) ok116 ?_ (hbT ()) (hok := by intro hx; simp [okP, getCall, Call.operands, evT, upd, peelB, DB, DI, cst, one] at hx ⊢; first | done | exact hx | (simp_all; done) | omega)
 refine drv_sound (n := 100) (rs := _) Tryz.func71 mo rfl (some _) _ _ ?_
 simp (maxSteps := 9999999) only [go_sem, ints, isI, I64]
 refine ⟨fun hno => RetOb.plain (d := DB false) ⟨?_, rfl⟩ rfl, fun hyes => ?_⟩
 ·simp only [DB]; congr 3; unfold memOK; grind
 ·refine XK.plain (containsFuncA 118 (fun a => !arrOK a) arr (by omega) ok118 fun a _ => isMemory1 a) ok117 ?_ (hbT ())
  refine drv_sound (n := 100) (rs := _) Tryz.func71 mo rfl (some _) _ _ ?_
  simp (maxSteps := 9999999) only [go_sem, ints, isI, I64]
  refine RetOb.plain (d := DB _) ⟨?_, rfl⟩ rfl
  simp only [DB]; congr 3; unfold memOK; rw [List.all_eq_not_any_not]; grind
theorem memoryValidI (p : Pg) (m : Mm) (hl : p.vars.length ≤ mx) (hl2 : p.arrays.length ≤ mx) : DC Tryz.prog 56 [.agg p.cells, .agg m.cells] [] (fun r h => r = DB (progOK p && memOK p.vars p.arrays m) ∧ h = []) := by
 obtain ⟨vs, ar, bd⟩ := p
 obtain ⟨va, arr⟩ := m
 refine dc_of_go Tryz.func56 rfl (by simp) ?_
 refine drv_sound (n := 100) (rs := _) Tryz.func56 mo rfl none _ _ ?_
 simp (maxSteps := 9999999) only [go_sem, Mm.cells]
 refine XK.plain (programValidI ⟨vs, ar, bd⟩ hl hl2) ok20 ?_ (hbT ())
 refine drv_sound (n := 100) (rs := _) Tryz.func56 mo rfl (some _) _ _ ?_
 simp (maxSteps := 9999999) only [go_sem, Mm.cells]
 refine XK.gplain 2 true (progOK ⟨vs, ar, bd⟩) (fun h => isMemory vs ar ⟨va, arr⟩ hl hl2) ok71 ?_ (hbT ()) (hok := by intro hx; simp [okP, getCall, Call.operands, evT, upd, peelB, DB, DI, cst, one] at hx ⊢; first | done | exact hx | (simp_all; done) | omega)
 refine drv_sound (n := 100) (rs := _) Tryz.func56 mo rfl (some _) _ _ ?_
 simp (maxSteps := 9999999) only [go_sem, Mm.cells]
 exact RetOb.plain (d := DB _) ⟨rfl, rfl⟩ rfl
end Go.Proofs.YtpphageokplgoaaGreat.CtR
namespace Go.Proofs.YtpphageokplgoaaGreat.CtR
open Go Go.CT CtF
end Go.Proofs.YtpphageokplgoaaGreat.CtR
namespace Go.Proofs.YtpphageokplgoaaGreat.CtR
open Go Go.CT CtF
theorem kf_I (xs : List Int) : ∀ c ∈ xs.map I64, kf c = true := by
 intro c hc; obtain ⟨x, _, rfl⟩ := List.mem_map.1 hc; rfl
theorem kf_A (xs : List (List Int)) : ∀ c ∈ xs.map isI, kf c = true := by
 intro c hc; obtain ⟨x, _, rfl⟩ := List.mem_map.1 hc; rfl
theorem flat_I (xs : List Int) : (xs.map fun n => [I64 n]).flatten = xs.map I64 := flat1 _ _
theorem flat_A (xs : List (List Int)) : (xs.map fun n => [isI n]).flatten = xs.map isI := flat1 _ _
theorem RetOb.new1 {R : D → List (Option (List C)) → Prop} {sz n k : Nat} {cs : List C} {hp : Hp} (hR : R (.c (.msl 0 sz 0 n)) [some cs]) (hb : hp k = some (some cs)) (hkf : ∀ c ∈ cs, kf c = true) : RetOb 0 R (.c (.msl k sz 0 n)) hp :=
 RetOb.of (fun j => if j = 0 then some k else none) [] (.c (.msl 0 sz 0 n)) [some cs] (subH_one rfl hb hkf) (by simp [DM, CM, hpL]) hR (by simp)
theorem RetOb.newNil {R : D → List (Option (List C)) → Prop} {sz : Nat} {hp : Hp} (hR : R (.c (.msl 0 sz 0 0)) [some []]) : RetOb 0 R (.c (.v (.slice none 0 0))) hp :=
 RetOb.of (fun j => none) [] (.c (.msl 0 sz 0 0)) [some []] ⟨fun k cs h => by
  match k with
  | 0 => simp [hpL] at h; exact .inr ⟨rfl, h⟩
  | k + 1 => simp [hpL] at h, fun k k' cs cs' j _ _ h => by simp at h, fun k h => by omega⟩ (by simp [DM, CM, hpL]) hR (by simp)
theorem cloneI (xs : List Int) (hl : xs.length ≤ 1000000) : DC Tryz.prog 66 [ints xs] [] (fun d h => d = .c (.msl 0 1 0 xs.length) ∧ h = [some (xs.map I64)]) := by
 have hmx := mx_eq
 cases xs with
 | nil =>
  refine DC.isl0 fun a c => ?_
  refine dc_of_go Tryz.func66 rfl (by simp) ?_
  refine drv_sound (n := 100) (rs := _) Tryz.func66 mo rfl none _ _ ?_
  cases a with
  | none =>
   simp (maxSteps := 9999999) only [go_sem, ints, isI, I64]
   exact RetOb.newNil ⟨rfl, rfl⟩
  | some a =>
   simp (maxSteps := 9999999) only [go_sem, ints, isI, I64]
   refine ⟨fun k e => by cases e; rfl, RetOb.new1 ⟨rfl, rfl⟩ (upd_same _ _ _) (by simp)⟩
 | cons a r =>
  have hr : r.length + 1 ≤ 1000000 := hl
  have hf := congrArg List.length (flat_I (a :: r))
  simp only [List.map_cons, List.length_cons, List.length_map, isI, I64] at hf
  refine dc_of_go Tryz.func66 rfl (by simp) ?_
  refine drv_sound (n := 100) (rs := _) Tryz.func66 mo rfl none _ _ ?_
  simp (maxSteps := 9999999) only [go_sem, ints, isI, I64]
  refine ⟨⟨fun k e => by cases e; rfl, by first | exact hf | simpa using hf, by omega, by omega⟩, RetOb.new1 ⟨rfl, rfl⟩ ?_ (kf_I (a :: r))⟩
  rw [← flat_I]
  exact upd_same _ _ _
theorem cloneA (xs : List (List Int)) (hl : xs.length ≤ 1000000) : DC Tryz.prog 103 [.c (.isl 1 (xs.map fun a => [isI a]))] [] (fun d h => d = .c (.msl 0 1 0 xs.length) ∧ h = [some (xs.map isI)]) := by
 have hmx := mx_eq
 cases xs with
 | nil =>
  refine DC.isl0 fun a c => ?_
  refine dc_of_go Tryz.func103 rfl (by simp) ?_
  refine drv_sound (n := 100) (rs := _) Tryz.func103 mo rfl none _ _ ?_
  cases a with
  | none =>
   simp (maxSteps := 9999999) only [go_sem, ints, isI, I64]
   exact RetOb.newNil ⟨rfl, rfl⟩
  | some a =>
   simp (maxSteps := 9999999) only [go_sem, ints, isI, I64]
   refine ⟨fun k e => by cases e; rfl, RetOb.new1 ⟨rfl, rfl⟩ (upd_same _ _ _) (by simp)⟩
 | cons a r =>
  have hr : r.length + 1 ≤ 1000000 := hl
  have hf := congrArg List.length (flat_A (a :: r))
  simp only [List.map_cons, List.length_cons, List.length_map, isI, I64] at hf
  refine dc_of_go Tryz.func103 rfl (by simp) ?_
  refine drv_sound (n := 100) (rs := _) Tryz.func103 mo rfl none _ _ ?_
  simp (maxSteps := 9999999) only [go_sem, ints, isI, I64]
  refine ⟨⟨fun k e => by cases e; rfl, by first | exact hf | simpa using hf, by omega, by omega⟩, RetOb.new1 ⟨rfl, rfl⟩ ?_ (kf_A (a :: r))⟩
  rw [← flat_A]
  exact upd_same _ _ _
end Go.Proofs.YtpphageokplgoaaGreat.CtR
namespace Go.Proofs.YtpphageokplgoaaGreat.CtR
open Go Go.CT CtF
def hdr (b b' na : Nat) : List C := [C.msl b 1 0 4, .msl b' 1 0 4].take na
def blk0 (arr : List (List Int)) : List C := ((arr[0]?).getD []).map I64
def blk1 (arr : List (List Int)) : List C := ((arr[1]?).getD []).map I64
def memB (b : Nat) (m : Mm) : List (Option (List C)) := [some (m.vals.map I64), some (hdr b (b + 1) m.arrays.length), some (blk0 m.arrays), some (blk1 m.arrays)]
theorem CMs_I {hT hS : Hp} {r : Nat → Option Nat} {fz : List Nat} (xs : List Int) : CMs hT r hS fz (xs.map I64) (xs.map I64) = True := eq_true (CMs.kf (kf_I xs))
theorem flat_I' (xs : List Int) : (xs.map fun n => [C.v (.int .i64 n)]).flatten = xs.map I64 := flat1 _ _
theorem l3Copy (m : Mm) (hv : m.vals.length ≤ 1000) (ha : m.arrays.length ≤ 2) (h4 : ∀ a ∈ m.arrays, a.length = 4) : DC Tryz.prog 111 [.agg m.cells] [] (fun d h => d = .agg [.msl 0 1 0 m.vals.length, .msl 1 1 0 m.arrays.length] ∧ h = memB 2 m) := by
 have hmx := mx_eq
 obtain ⟨va, arr⟩ := m
 have hv : va.length ≤ 1000 := hv
 match arr, ha, h4 with
 | [], _, _ =>
  refine dc_of_go Tryz.func111 rfl (by simp) ?_
  refine drv_sound (n := 100) (rs := _) Tryz.func111 mo rfl none _ _ ?_
  simp (maxSteps := 9999999) only [go_sem, Mm.cells, isI, I64, flat_I']
  refine ⟨⟨fun k e => by cases e; rfl, by omega, by omega⟩, ?_⟩
  refine Go.loop ?_
  refine drv_sound (n := 100) (rs := _) Tryz.func111 mo rfl none _ _ ?_
  simp (maxSteps := 9999999) only [go_sem, Mm.cells, isI, I64, flat_I', Int.reduceLT]
  refine RetOb.ofQ (fun j => if j = 0 then some 320 else none) [] (.agg [.msl 0 1 0 va.length, .msl 1 1 0 0]) (memB 2 ⟨va, []⟩) ?_ ⟨rfl, rfl⟩ (by simp)
  simp [memB, enumL, hOf, hdr, blk0, blk1, DM, CM, CMs, HpOK, LowOK, upd, CMs_I, isI]
 | [a], _, h4 =>
  have h4a : a.length = 4 := h4 a (by simp)
  refine dc_of_go Tryz.func111 rfl (by simp) ?_
  refine drv_sound (n := 100) (rs := _) Tryz.func111 mo rfl none _ _ ?_
  simp (maxSteps := 9999999) only [go_sem, Mm.cells, isI, I64, flat_I']
  refine ⟨⟨fun k e => by cases e; rfl, by omega, by omega⟩, ?_⟩
  refine Go.loop ?_
  refine drv_sound (n := 100) (rs := _) Tryz.func111 mo rfl none _ _ ?_
  simp (maxSteps := 9999999) only [go_sem, Mm.cells, isI, I64, flat_I', Int.reduceLT]
  (repeat' with_reducible apply And.intro) <;> (try first | omega | (simp only [InK]; omega) | (intro k e; cases e; rfl) | (intro hguard; exact ⟨hguard, by simp only [InK]; omega⟩) | kernel_rfl)
  refine Go.inLoop ?_
  refine drv_sound (n := 100) (rs := _) Tryz.func111 mo rfl none _ _ ?_
  simp (maxSteps := 9999999) only [go_sem, Mm.cells, isI, I64, flat_I', Int.reduceLT]
  refine RetOb.ofQ (fun j => if j = 0 then some 320 else if j = 1 then some 1600 else if j = 2 then some 1472 else none) [] (.agg [.msl 0 1 0 va.length, .msl 1 1 0 1]) (memB 2 ⟨va, [a]⟩) ?_ ⟨rfl, rfl⟩ (by simp)
  simp [memB, enumL, hOf, hdr, blk0, blk1, DM, CM, CMs, HpOK, LowOK, upd, CMs_I, isI, h4a]
 | [a, b], _, h4 =>
  have h4a : a.length = 4 := h4 a (by simp)
  have h4b : b.length = 4 := h4 b (by simp)
  refine dc_of_go Tryz.func111 rfl (by simp) ?_
  refine drv_sound (n := 100) (rs := _) Tryz.func111 mo rfl none _ _ ?_
  simp (maxSteps := 9999999) only [go_sem, Mm.cells, isI, I64, flat_I']
  refine ⟨⟨fun k e => by cases e; rfl, by omega, by omega⟩, ?_⟩
  refine Go.loop ?_
  refine drv_sound (n := 100) (rs := _) Tryz.func111 mo rfl none _ _ ?_
  simp (maxSteps := 9999999) only [go_sem, Mm.cells, isI, I64, flat_I', Int.reduceLT]
  (repeat' with_reducible apply And.intro) <;> (try first | omega | (simp only [InK]; omega) | (intro k e; cases e; rfl) | (intro hguard; exact ⟨hguard, by simp only [InK]; omega⟩) | kernel_rfl)
  refine Go.inLoop ?_
  refine drv_sound (n := 100) (rs := _) Tryz.func111 mo rfl none _ _ ?_
  simp (maxSteps := 9999999) only [go_sem, Mm.cells, isI, I64, flat_I', Int.reduceLT]
  (repeat' with_reducible apply And.intro) <;> (try first | omega | (simp only [InK]; omega) | (intro k e; cases e; rfl) | (intro hguard; exact ⟨hguard, by simp only [InK]; omega⟩) | kernel_rfl)
  refine Go.inLoop ?_
  refine drv_sound (n := 100) (rs := _) Tryz.func111 mo rfl none _ _ ?_
  simp (maxSteps := 9999999) only [go_sem, Mm.cells, isI, I64, flat_I', Int.reduceLT]
  refine RetOb.ofQ (fun j => if j = 0 then some 320 else if j = 1 then some 2944 else if j = 2 then some 1472 else if j = 3 then some 2816 else none) [] (.agg [.msl 0 1 0 va.length, .msl 1 1 0 2]) (memB 2 ⟨va, [a, b]⟩) ?_ ⟨rfl, rfl⟩ (by simp)
  simp [memB, enumL, hOf, hdr, blk0, blk1, DM, CM, CMs, HpOK, LowOK, upd, CMs_I, isI, h4a, h4b]
end Go.Proofs.YtpphageokplgoaaGreat.CtR
