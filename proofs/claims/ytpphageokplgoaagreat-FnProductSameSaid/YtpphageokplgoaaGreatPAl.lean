/- Contracts of functions of the program, one behind the other, as plain data: what each call returns and which blocks it leaves. -/
import Derived.Test.YtpphageokplgoaaGreatPFacts
import Derived.Test.YtpphageokplgoaaGreatPAk
set_option linter.unusedVariables false
set_option linter.unusedSimpArgs false
set_option maxHeartbeats 16000000
set_option maxRecDepth 100000
namespace Go.Proofs.YtpphageokplgoaaGreat.CtR
open Go Go.CT CtF
def highI (p : Pg) (k : Int) : Int := if k = 1 then 255 else if k = 2 then (p.vars.length : Int) - 1 else if k = 3 then (p.arrays.length : Int) - 1 else 0
theorem highI_eq (p : Pg) (k : Int) : highI p k = limit p k - 1 := by
 unfold highI limit; repeat' split
 all_goals omega
def okE (p : Pg) (d : Nat) (e : Ex) (c : Nat) : Bool := shape p d e && decide (c + cnt d e ≤ 15)
def scanR (p : Pg) (d : Nat) (e : Ex) (c : Nat) (r : D) (h : List (Option (List C))) : Prop := ∃ c' : Nat, r = DB (okE p d e c) ∧ h = [some [I64 c']] ∧ c' ≤ 16 ∧ (okE p d e c = true → c' = c + cnt d e)
theorem okE_kid {p : Pg} {d c i : Nat} {k v : Int} {ks : List Ex} {x : Ex} (hx : ks[i]? = some x) (h : okE p d x (c + 1 + tsum (cnt d) ks i) = false) : false = okE p (d + 1) (.mk k v ks) c := by
 symm
 rw [Bool.eq_false_iff] at h ⊢
 intro h2
 apply h
 simp only [okE, Bool.and_eq_true, decide_eq_true_eq] at h2 ⊢
 refine ⟨(shape_succ h2.1).2.1 x (List.mem_of_getElem? hx), ?_⟩
 have h3 := tsum_succ (cnt d) ks i x hx
 have h4 := tsum_le (cnt d) ks (i + 1)
 have h5 := h2.2
 simp only [cnt] at h5
 omega
theorem okE_all {p : Pg} {d c : Nat} {k v : Int} {ks : List Ex} (h1 : fitsE p k v ks.length = true) (h2 : ∀ x ∈ ks, shape p d x = true) (h3 : k = 3 → headAtom ks = true) (h4 : c + 1 + tsum (cnt d) ks ks.length ≤ 15) : true = okE p (d + 1) (.mk k v ks) c ∧ c + 1 + tsum (cnt d) ks ks.length = c + cnt (d + 1) (.mk k v ks) := by
 rw [tsum_all _ _ (Nat.le_refl _)] at h4 ⊢
 have hs : shape p (d + 1) (.mk k v ks) = true := by
  simp only [shape, Bool.and_eq_true, List.all_eq_true, Bool.or_eq_true]
  refine ⟨⟨h1, h2⟩, ?_⟩
  by_cases hk : k = 3
  ·exact .inr (h3 hk)
  ·exact .inl (by simp [hk])
 have hc : c + cnt (d + 1) (.mk k v ks) ≤ 15 := by simp only [cnt]; omega
 refine ⟨by simp [okE, hs, hc], by simp only [cnt]; omega⟩
theorem take_succ_mem {α : Type} {ks : List α} {i : Nat} {x : α} (hx : ks[i]? = some x) {q : α → Prop} (h : ∀ y ∈ ks.take i, q y) (h2 : q x) : ∀ y ∈ ks.take (i + 1), q y := by
 intro y hy
 rw [List.take_add_one, hx] at hy
 rcases List.mem_append.1 hy with h3 | h3
 ·exact h y h3
 ·simp at h3; rw [h3]; exact h2
theorem okE_false_of_val {p : Pg} {d c : Nat} {k v : Int} {ks : List Ex} (h : 0 ≤ v → highI p k < v) : false = okE p d (.mk k v ks) c := by
 symm
 rw [Bool.eq_false_iff]
 intro h2
 cases d with
 | zero => simp [okE, shape] at h2
 | succ d =>
  simp only [okE, Bool.and_eq_true] at h2
  have := fits_len (shape_succ h2.1).1
  rw [highI_eq] at h
  omega
theorem fitsE_true2 {p : Pg} {k v : Int} {n : Nat} (h : (n : Int) = arity k) (h2 : 0 ≤ v) (h3 : v ≤ highI p k) : fitsE p k v n = true := by
 rw [highI_eq] at h3; exact fitsE_true h h2 (by omega)
theorem okE_false_of_atom {p : Pg} {d c : Nat} {v : Int} {ks : List Ex} (h : headAtom ks = false) : false = okE p d (.mk 3 v ks) c := by
 symm
 rw [Bool.eq_false_iff]
 intro h2
 cases d with
 | zero => simp [okE, shape] at h2
 | succ d =>
  simp only [okE, Bool.and_eq_true] at h2
  have := (shape_succ h2.1).2.2 rfl
  rw [h] at this; cases this
theorem headAtom_of {ks : List Ex} {x : Ex} (h : ks[0]? = some x) : headAtom ks = atom x := by
 cases ks with
 | nil => simp at h
 | cons a r => simp at h; rw [h]; rfl
theorem scan (p : Pg) (hl : p.vars.length ≤ mx) (hl2 : p.arrays.length ≤ mx) : ∀ (d : Nat) (e : Ex) (deep : Int) (c : Nat), 1 ≤ deep → deep + d = 6 → c ≤ 15 → DC Tryz.prog 193 [.agg p.cells, .agg e.cells, DI .i64 deep, .c (.ptr 0 0)] [some [I64 c]] (scanR p d e c) := by
 have hmx := mx_eq
 intro d
 induction d using Nat.strongRecOn with
 | _ d ih =>
  intro e deep c hdeep hsum hc
  obtain ⟨k, v, ks⟩ := e
  obtain ⟨vs, ar, bd⟩ := p
  have hl : vs.length ≤ mx := hl
  have hl2 : ar.length ≤ mx := hl2
  have ret : ∀ (b : Bool) (c' : Nat) (hp : Hp), b = okE ⟨vs, ar, bd⟩ d (.mk k v ks) c → hp 0 = some (some [I64 c']) → c' ≤ 16 → (b = true → c' = c + cnt d (.mk k v ks)) → RetOb 1 (scanR ⟨vs, ar, bd⟩ d (.mk k v ks) c) (DB b) hp :=
   fun b c' hp hb hhp h16 ht => RetOb.keep1 (d := DB b) (cs := [I64 c']) ⟨c', by rw [hb], rfl, h16, by rw [← hb]; exact ht⟩ hhp (by simp [kf]) rfl
  refine dc_of_go Tryz.func193 rfl (by simp) ?_
  refine drv_sound (n := 100) (rs := _) Tryz.func193 mo rfl none _ _ ?_
  simp (maxSteps := 9999999) only [go_sem]
  (repeat' with_reducible apply And.intro) <;> (try first | omega | (simp only [InK]; omega) | (intro k e; cases e; rfl) | (intro hguard; exact ⟨hguard, by simp only [InK]; omega⟩) | kernel_rfl)
  refine XK.gplain 8 false (!((decide (15 < (c : Int) + 1)) || decide (5 < deep))) (fun _ => operands k) ok202 ?_ (hbT ()) (fun _ => by kernel_rfl) (hm := by simp only [wkey]; decide) (hok := by intro hx; simp [okP, getCall, Call.operands, evT, upd, peelB, DB, DI, cst, one] at hx ⊢; first | done | exact hx | (simp_all; done) | omega)
  have hno : ((15 < (c : Int) + 1 ∨ 5 < deep) ∨ ¬ arity k = ks.length) → false = okE ⟨vs, ar, bd⟩ d (.mk k v ks) c := by
   intro hno
   symm
   simp only [okE]
   rw [Bool.and_eq_false_iff]
   rcases hno with (h | h) | h
   ·right
    have : 1 ≤ cnt d (.mk k v ks) := by cases d <;> simp [cnt]
    simp; omega
   ·left
    obtain rfl : d = 0 := by omega
    rfl
   ·left
    cases d with
    | zero => rfl
    | succ d =>
     simp only [shape]
     rw [fitsE_false (by omega)]
     rfl
  by_cases hk3 : k = 3
  ·subst hk3
   by_cases ha : arity 3 = ks.length
   ·obtain ⟨⟨k1, v1, ks1⟩, h0⟩ : ∃ x, ks[0]? = some x := ⟨ks[0]'(by simp [arity] at ha; omega), List.getElem?_eq_getElem _⟩
    refine drv_sound (n := 100) (rs := _) Tryz.func193 mo rfl (some _) _ _ ?_
    simp (maxSteps := 9999999) only [go_sem, h0]
    refine And.intro (by kernel_rfl) (And.intro (by kernel_rfl) (And.intro (by kernel_rfl) (And.intro (by kernel_rfl) (And.intro (by kernel_rfl) ⟨fun h => ret _ (c + 1) _ (hno h) (by simp [I64, upd_same]) (by omega) (by simp), fun hyes => ?_⟩))))
    have ks3 : ks.length ≤ 3 := by have := arity_le 3; omega
    (repeat' with_reducible apply And.intro) <;> (try first | omega | (simp only [InK]; omega) | (intro k e; cases e; rfl) | (intro hguard; exact ⟨hguard, by simp only [InK]; omega⟩) | kernel_rfl)
    refine XK.plain (within v 0 _) ok63 ?_ (hbT ()) (hm := by simp only [wkey]; decide)
    refine drv_sound (n := 100) (rs := _) Tryz.func193 mo rfl (some _) _ _ ?_
    simp (maxSteps := 9999999) only [go_sem, h0]
    refine XK.gplain 9 true (decide (0 ≤ v) && decide (v ≤ (ar.length : Int) - 1)) (fun _ => isPlain (.mk k1 v1 ks1)) ok155 ?_ (hbT ()) (hm := by simp only [wkey]; decide) (hok := by intro hx; simp [okP, getCall, Call.operands, evT, upd, peelB, DB, DI, cst, one] at hx ⊢; first | done | exact hx | (simp_all; done) | omega)
    refine drv_sound (n := 100) (rs := _) Tryz.func193 mo rfl (some _) _ _ ?_
    simp (maxSteps := 9999999) only [go_sem, h0]
    refine ⟨fun hf => ret _ (c + 1) _ ?_ (by simp [I64, upd_same]) (by omega) (by simp), fun hv => ?_⟩
    ·by_cases hvv : 0 ≤ v ∧ v ≤ (ar.length : Int) - 1
     ·exact okE_false_of_atom (by rw [headAtom_of h0]; exact hf.elim (fun h => absurd (h hvv.1) (by omega)) id)
     ·exact okE_false_of_val (by unfold highI; (try dsimp only); (repeat' split) <;> omega)
    obtain ⟨d', rfl⟩ : ∃ d', d = d' + 1 := ⟨d - 1, by omega⟩
    refine Go.loopL (fun i : Nat => [(2, DI .i64 deep), (3, .c (.ptr 0 0)), (4, .c (.ptr 1 0)), (69, .c (.isl 3 (Ex.cellsL ks))), (70, DI .i64 ks.length), (71, DI .i64 i)]) (fun i => [(0, some [I64 (c + 1 + tsum (cnt d') ks i : Nat)]), (1, some (Pg.cells ⟨vs, ar, bd⟩))]) 65536 (fun i => i ≤ ks.length ∧ (∀ x ∈ ks.take i, shape ⟨vs, ar, bd⟩ d' x = true) ∧ c + 1 + tsum (cnt d') ks i ≤ 15) (fun i => ks.length - i) ?_ 0 some [] _ ⟨Nat.zero_le _, by simp, by simp only [tsum_zero]; omega⟩ ?_
    ·intro i ⟨hi, hall, hcnt⟩ again
     refine drv_sound (n := 100) (rs := _) Tryz.func193 mo rfl none _ _ ?_
     rcases Nat.lt_or_ge i ks.length with hlt | hge
     ·obtain ⟨⟨k', v', ks'⟩, hx⟩ : ∃ x, ks[i]? = some x := ⟨ks[i], by simp [hlt]⟩
      simp (maxSteps := 9999999) only [go_sem, hx, hlt]
      (repeat' with_reducible apply And.intro) <;> (try first | omega | (simp only [InK]; omega) | (intro k e; cases e; rfl) | (intro hguard; exact ⟨hguard, by simp only [InK]; omega⟩) | kernel_rfl)
      refine XK.callG [0] (ih d' (by omega) (.mk k' v' ks') (deep + 1) (c + 1 + tsum (cnt d') ks i) (by omega) (by omega) (by omega)) ok193 (hhp_one rfl) (hbT ()) (fun d h' ⟨c', _, e, _⟩ => by subst e; simp) ?_
      rintro d h' ⟨c', rfl, rfl, hc16, htr⟩ _
      refine drv_sound (n := 100) (rs := _) Tryz.func193 mo rfl (some _) _ _ ?_
      simp (maxSteps := 9999999) only [go_sem]
      refine ⟨fun hf => ret _ c' _ (okE_kid hx hf) (by simp [I64, upd_same]) hc16 (by simp), fun hf => ⟨by simp only [InK]; omega, ?_⟩⟩
      have he := htr hf
      have hs := tsum_succ (cnt d') ks i _ hx
      simp only [okE, Bool.and_eq_true, decide_eq_true_eq] at hf
      refine again (i + 1) some [] _ ⟨by omega, take_succ_mem hx hall hf.1, by omega⟩ (by omega) ?_
      rw [show c' = c + 1 + tsum (cnt d') ks (i + 1) from by omega]
      simp (maxSteps := 9999999) only [go_sem, TmOK, DM, DMs, CM, CMs, forall_eq, exists_eq_left, Mt, HpOK, LowOK]
      simp
     ·have hn : ¬ i < ks.length := by omega
      obtain rfl : i = ks.length := by omega
      simp (maxSteps := 9999999) only [go_sem, hn]
      obtain ⟨e1, e2⟩ := okE_all (k := 3) (v := v) (fitsE_true2 hyes.2.symm (by omega) (by unfold highI; (try dsimp only); (repeat' split) <;> omega)) (fun x hx => hall x (by rw [List.take_length]; exact hx)) (fun _ => by rw [headAtom_of h0]; exact hv.2) hcnt
      refine ret _ _ _ e1 (by first | rfl | simp [I64, upd_same]) (by omega) (fun _ => e2)
    ·simp (maxSteps := 9999999) only [go_sem, TmOK, DM, DMs, CM, CMs, forall_eq, exists_eq_left, Mt, HpOK, LowOK, tsum_zero]
     simp
   ·have hne : (arity 3 = (ks.length : Int)) = False := eq_false ha
    have hne2 : (arity 3 != (ks.length : Int)) = true := by simp [ha]
    refine drv_sound (n := 100) (rs := _) Tryz.func193 mo rfl (some _) _ _ ?_
    simp (maxSteps := 9999999) only [go_sem, hne, hne2, Bool.or_true]
    (repeat' with_reducible apply And.intro) <;> (try first | omega | (simp only [InK]; omega) | (intro k e; cases e; rfl) | (intro hguard; exact ⟨hguard, by simp only [InK]; omega⟩) | kernel_rfl)
    all_goals first | exact ret _ (c + 1) _ (hno (.inr ha)) (by simp [I64, upd_same]) (by omega) (by simp) | skip
  ·have hb3 : (k == 3) = false := by simp [hk3]
   rcases h0 : ks[0]? with _ | ⟨k1, v1, ks1⟩
   all_goals
    refine drv_sound (n := 100) (rs := _) Tryz.func193 mo rfl (some _) _ _ ?_
    simp (maxSteps := 9999999) only [go_sem, h0, hk3, hb3]
    refine And.intro (by kernel_rfl) (And.intro (by kernel_rfl) (And.intro (by kernel_rfl) (And.intro (by kernel_rfl) (And.intro (by kernel_rfl) ⟨fun h => ret _ (c + 1) _ (hno h) (by simp [I64, upd_same]) (by omega) (by simp), fun hyes => ⟨fun hk => ?_, fun hk => ⟨fun hk => ⟨by simp only [InK]; omega, ?_⟩, fun hk => ?_⟩⟩⟩))))
    all_goals
     have ks3 : ks.length ≤ 3 := by have := arity_le k; omega
     refine XK.plain (within v 0 _) ok63 ?_ (hbT ()) (hm := by simp only [wkey]; decide)
     refine drv_sound (n := 100) (rs := _) Tryz.func193 mo rfl (some _) _ _ ?_
     simp (maxSteps := 9999999) only [go_sem, h0, hk3, hb3]
     refine XK.gskip 9 true (DB false) ?_ (hbT ()) (hm := by simp only [wkey]; decide)
     refine drv_sound (n := 100) (rs := _) Tryz.func193 mo rfl (some _) _ _ ?_
     simp (maxSteps := 9999999) only [go_sem, h0, hk3, hb3]
     refine ⟨fun h => h.2, fun hf => ret _ (c + 1) _ (okE_false_of_val (by unfold highI; (try dsimp only); (repeat' split) <;> omega)) (by simp [I64, upd_same]) (by omega) (by simp), fun hv => ?_⟩
     obtain ⟨d', rfl⟩ : ∃ d', d = d' + 1 := ⟨d - 1, by omega⟩
     refine Go.loopL (fun i : Nat => [(2, DI .i64 deep), (3, .c (.ptr 0 0)), (4, .c (.ptr 1 0)), (69, .c (.isl 3 (Ex.cellsL ks))), (70, DI .i64 ks.length), (71, DI .i64 i)]) (fun i => [(0, some [I64 (c + 1 + tsum (cnt d') ks i : Nat)]), (1, some (Pg.cells ⟨vs, ar, bd⟩))]) 65536 (fun i => i ≤ ks.length ∧ (∀ x ∈ ks.take i, shape ⟨vs, ar, bd⟩ d' x = true) ∧ c + 1 + tsum (cnt d') ks i ≤ 15) (fun i => ks.length - i) ?_ 0 some [] _ ⟨Nat.zero_le _, by simp, by simp only [tsum_zero]; omega⟩ ?_
     ·intro i ⟨hi, hall, hcnt⟩ again
      refine drv_sound (n := 100) (rs := _) Tryz.func193 mo rfl none _ _ ?_
      rcases Nat.lt_or_ge i ks.length with hlt | hge
      ·obtain ⟨⟨k', v', ks'⟩, hx⟩ : ∃ x, ks[i]? = some x := ⟨ks[i], by simp [hlt]⟩
       simp (maxSteps := 9999999) only [go_sem, hx, hlt]
       (repeat' with_reducible apply And.intro) <;> (try first | omega | (simp only [InK]; omega) | (intro k e; cases e; rfl) | (intro hguard; exact ⟨hguard, by simp only [InK]; omega⟩) | kernel_rfl)
       refine XK.callG [0] (ih d' (by omega) (.mk k' v' ks') (deep + 1) (c + 1 + tsum (cnt d') ks i) (by omega) (by omega) (by omega)) ok193 (hhp_one rfl) (hbT ()) (fun d h' ⟨c', _, e, _⟩ => by subst e; simp) ?_
       rintro d h' ⟨c', rfl, rfl, hc16, htr⟩ _
       refine drv_sound (n := 100) (rs := _) Tryz.func193 mo rfl (some _) _ _ ?_
       simp (maxSteps := 9999999) only [go_sem]
       refine ⟨fun hf => ret _ c' _ (okE_kid hx hf) (by simp [I64, upd_same]) hc16 (by simp), fun hf => ⟨by simp only [InK]; omega, ?_⟩⟩
       have he := htr hf
       have hs := tsum_succ (cnt d') ks i _ hx
       simp only [okE, Bool.and_eq_true, decide_eq_true_eq] at hf
       refine again (i + 1) some [] _ ⟨by omega, take_succ_mem hx hall hf.1, by omega⟩ (by omega) ?_
       rw [show c' = c + 1 + tsum (cnt d') ks (i + 1) from by omega]
       simp (maxSteps := 9999999) only [go_sem, TmOK, DM, DMs, CM, CMs, forall_eq, exists_eq_left, Mt, HpOK, LowOK]
       simp
      ·have hn : ¬ i < ks.length := by omega
       obtain rfl : i = ks.length := by omega
       simp (maxSteps := 9999999) only [go_sem, hn]
       obtain ⟨e1, e2⟩ := okE_all (k := k) (v := v) (fitsE_true2 hyes.2.symm (by omega) (by unfold highI; (try dsimp only); (repeat' split) <;> omega)) (fun x hx => hall x (by rw [List.take_length]; exact hx)) (by intro h; exact absurd h hk3) hcnt
       refine ret _ _ _ e1 (by first | rfl | simp [I64, upd_same]) (by omega) (fun _ => e2)
     ·simp (maxSteps := 9999999) only [go_sem, TmOK, DM, DMs, CM, CMs, forall_eq, exists_eq_left, Mt, HpOK, LowOK, tsum_zero]
      simp
end Go.Proofs.YtpphageokplgoaaGreat.CtR
namespace Go.Proofs.YtpphageokplgoaaGreat.CtR
open Go Go.CT CtF
theorem expr (p : Pg) (e : Ex) (hl : p.vars.length ≤ mx) (hl2 : p.arrays.length ≤ mx) : DC Tryz.prog 154 [.agg p.cells, .agg e.cells] [] (fun r h => r = DB (right p e) ∧ h = []) := by
 obtain ⟨k, v, ks⟩ := e
 obtain ⟨vs, ar, bd⟩ := p
 refine dc_of_go Tryz.func154 rfl (by simp) ?_
 refine drv_sound (n := 100) (rs := _) Tryz.func154 mo rfl none _ _ ?_
 simp (maxSteps := 9999999) only [go_sem]
 refine XK.callG [192] (scan ⟨vs, ar, bd⟩ hl hl2 5 (.mk k v ks) 1 0 (by omega) (by omega) (by omega)) ok193 (hhp_one rfl) (hbT ()) (fun d h' ⟨c', _, e, _⟩ => by subst e; simp) ?_
 rintro d h' ⟨c', rfl, rfl, hc16, htr⟩ _
 refine drv_sound (n := 100) (rs := _) Tryz.func154 mo rfl (some _) _ _ ?_
 simp (maxSteps := 9999999) only [go_sem]
 refine RetOb.plain (d := DB _) ⟨?_, rfl⟩ rfl
 have : decide (0 + cnt 5 (.mk k v ks) ≤ 15) = decide ((cnt 5 (.mk k v ks) : Int) ≤ 15) := decide_eq_decide.2 (by omega)
 simp only [right, DB, okE, this]
end Go.Proofs.YtpphageokplgoaaGreat.CtR
namespace Go.Proofs.YtpphageokplgoaaGreat.CtR
open Go Go.CT CtF
def blk (k : Int) : Bool := k == 3 || k == 4
def parts (k t : Int) (ix v : Ex) (c : Int) (bn en : Nat) : Bool :=
 !(!(blk k) && (decide (0 < (bn : Int)) || decide (0 < (en : Int))) || blk k && t != 0) &&
 (if k = 4 then (en : Int) == 0 && decide (1 ≤ c) && decide (c ≤ 3) && none0 ix && none0 v else c == 0 && (k == 2 || none0 ix))
theorem l2Parts (s : St1) : DC Tryz.prog 187 [.agg s.cells] [] (fun r h => r = DB (parts s.kind s.target s.index s.value s.count s.body.length s.els.length) ∧ h = []) := by
 obtain ⟨k, t, ⟨ik, iv, iks⟩, ⟨vk, vv, vks⟩, c, b, e⟩ := s
 generalize hB : parts _ _ _ _ _ _ _ = B
 simp only [St1.kind, St1.target, St1.index, St1.value, St1.count, St1.body, St1.els] at hB
 refine dc_of_go Tryz.func187 rfl (by simp) ?_
 refine drv_sound (n := 100) (rs := _) Tryz.func187 mo rfl none _ _ ?_
 simp (maxSteps := 9999999) only [go_sem]
 refine ⟨fun h => ⟨h, fun h2 => ⟨h, h2⟩⟩, fun h => ⟨h, fun h2 => ⟨h, h2⟩⟩, fun hno => RetOb.plain (d := DB false) ⟨?_, rfl⟩ rfl, fun hyes => ⟨fun hk => ?_, fun hk => ?_⟩⟩
 ·rw [← hB]
  simp only [DB]; congr 3
  unfold parts blk
  grind
 ·refine XK.gplain 14 true ((((e.length : Int) == 0) && decide (1 ≤ c)) && decide (c ≤ 3)) (fun _ => l2None (.mk ik iv iks)) ok201 ?_
  refine drv_sound (n := 100) (rs := _) Tryz.func187 mo rfl (some _) _ _ ?_
  simp (maxSteps := 9999999) only [go_sem]
  refine XK.gplain 19 true (((((e.length : Int) == 0) && decide (1 ≤ c)) && decide (c ≤ 3)) && none0 (.mk ik iv iks)) (fun _ => l2None (.mk vk vv vks)) ok201 ?_
  refine drv_sound (n := 100) (rs := _) Tryz.func187 mo rfl (some _) _ _ ?_
  simp (maxSteps := 9999999) only [go_sem]
  refine RetOb.plain (d := DB _) ⟨?_, rfl⟩ rfl
  rw [← hB]
  simp only [DB]; congr 3
  unfold parts blk
  grind
 ·refine XK.gplain 7 false ((c == 0) && (!(k == 2))) (fun _ => l2None (.mk ik iv iks)) ok201 ?_
  refine drv_sound (n := 100) (rs := _) Tryz.func187 mo rfl (some _) _ _ ?_
  simp (maxSteps := 9999999) only [go_sem]
  refine ⟨fun h => ⟨h, fun h2 => ⟨h, h2⟩⟩, ?_⟩
  refine RetOb.plain (d := DB _) ⟨?_, rfl⟩ rfl
  rw [← hB]
  simp only [DB]; congr 3
  unfold parts blk
  grind
end Go.Proofs.YtpphageokplgoaaGreat.CtR
namespace Go.Proofs.YtpphageokplgoaaGreat.CtR
open Go Go.CT CtF
def headOK (p : Pg) (k t : Int) (ix v : Ex) (c : Int) (bn en : Nat) : Bool :=
 parts k t ix v c bn en && (if k = 1 ∨ k = 5 then decide (0 ≤ t) && decide (t < p.vars.length) && right p v
  else if k = 2 then decide (0 ≤ t) && decide (t < p.arrays.length) && right p ix && atom ix && right p v
  else if k = 3 then right p v else k == 4)
def stmtOK (p : Pg) : Nat → St1 → Bool
 | 0, _ => false
 | d + 1, .mk k t ix v c b e => headOK p k t ix v c b.length e.length && b.all (stmtOK p d) && e.all (stmtOK p d)
def tsize : Nat → St1 → Nat
 | 0, _ => 0
 | d + 1, .mk _ _ _ _ _ b e => 1 + (b.map (tsize d)).sum + (e.map (tsize d)).sum
def lsize (d : Nat) (l : List St1) : Nat := (l.map (tsize d)).sum
theorem tsize_pos {d : Nat} (s : St1) : 1 ≤ tsize (d + 1) s := by cases s; simp [tsize]; omega
theorem len_le_sum {α : Type} (f : α → Nat) : ∀ l : List α, (∀ x ∈ l, 1 ≤ f x) → l.length ≤ (l.map f).sum
 | [], _ => by simp
 | a :: r, h => by
  have h1 := h a (by simp)
  have h2 := len_le_sum f r fun x hx => h x (by simp [hx])
  simp only [List.map_cons, List.sum_cons, List.length_cons]
  omega
theorem len_le_lsize {d : Nat} (l : List St1) : l.length ≤ lsize (d + 1) l := len_le_sum _ l fun x _ => tsize_pos x
theorem mem_le_sum {α : Type} (f : α → Nat) {x : α} : ∀ {l : List α}, x ∈ l → f x ≤ (l.map f).sum
 | a :: r, h => by
  simp only [List.map_cons, List.sum_cons]
  rcases List.mem_cons.1 h with rfl | h
  ·omega
  ·have := mem_le_sum f h; omega
theorem mem_le_lsize {d : Nat} {l : List St1} {s : St1} (h : s ∈ l) : tsize d s ≤ lsize d l := mem_le_sum _ h
theorem l2BlockOf (p : Pg) (d : Nat) (hd : d ≤ 5)
 (ih : ∀ s, tsize d s ≤ 1099511627776 → DC Tryz.prog 148 [.agg p.cells, .agg s.cells, DI .i64 d] [] (fun r h => r = DB (stmtOK p d s) ∧ h = [])) (l : List St1) (hl : lsize d l ≤ 1099511627776) :
 DC Tryz.prog 96 [.agg p.cells, .c (.isl 11 (St1.cellsL l)), DI .i64 d] [] (fun r h => r = DB (l.all (stmtOK p d)) ∧ h = []) := by
 obtain ⟨vs, ar, bd⟩ := p
 generalize hB : l.all (stmtOK ⟨vs, ar, bd⟩ d) = B
 refine dc_of_go Tryz.func96 rfl (by simp) ?_
 refine drv_sound (n := 100) (rs := _) Tryz.func96 mo rfl none _ _ ?_
 simp (maxSteps := 9999999) only [go_sem]
 refine Go.loopL (fun i : Nat => [(1, .c (.isl 11 (St1.cellsL l))), (2, DI .i64 d), (3, .c (.ptr 0 0)), (7, DI .i64 i)]) (fun _ => [(0, some (Pg.cells ⟨vs, ar, bd⟩))]) 1024 (fun i => i ≤ l.length ∧ B = (l.drop i).all (stmtOK ⟨vs, ar, bd⟩ d)) (fun i => l.length - i) ?_ 0 some [] _ ⟨Nat.zero_le _, hB.symm⟩ ?_
 ·intro i hi again
  refine drv_sound (n := 100) (rs := _) Tryz.func96 mo rfl none _ _ ?_
  rcases Nat.lt_or_ge i l.length with hlt | hge
  ·obtain ⟨⟨k, t, ⟨ik, iv, iks⟩, ⟨vk, vv, vks⟩, c, b, e⟩, hx⟩ : ∃ x, l[i]? = some x := ⟨l[i], by simp [hlt]⟩
   have hI := hi.2
   obtain ⟨_, he⟩ := List.getElem?_eq_some_iff.1 hx
   have hmem := List.mem_of_getElem? hx
   rw [List.drop_eq_getElem_cons hlt, he, List.all_cons] at hI
   simp (maxSteps := 9999999) only [go_sem, hx, hlt]
   (repeat' with_reducible apply And.intro) <;> (try first | omega | (simp only [InK]; omega) | (intro k e; cases e; rfl) | (intro hguard; exact ⟨hguard, by simp only [InK]; omega⟩) | kernel_rfl)
   refine XK.plain (ih _ (Nat.le_trans (mem_le_lsize hmem) hl)) ok148 ?_ (hbT ()) (fun _ => by kernel_rfl)
   refine drv_sound (n := 100) (rs := _) Tryz.func96 mo rfl (some _) _ _ ?_
   simp (maxSteps := 9999999) only [go_sem]
   refine And.intro (by kernel_rfl) ⟨fun hno => RetOb.plain (d := DB false) ⟨?_, rfl⟩ rfl, fun hyes => ⟨?_, ?_⟩⟩
   ·rw [hno] at hI; rw [hI]; rfl
   ·cases d with
    | zero => simp [stmtOK] at hyes
    | succ d => have := len_le_lsize (d := d) l; simp only [InK]; omega
   ·refine again (i + 1) some [] _ ⟨by omega, ?_⟩ (by omega) ?_
    ·rw [hI, hyes]; rfl
    ·simp (maxSteps := 9999999) only [go_sem, TmOK, DM, DMs, CM, CMs, forall_eq, exists_eq_left, Mt, HpOK, LowOK]
     simp
  ·have hn : ¬ i < l.length := by omega
   simp (maxSteps := 9999999) only [go_sem, hn]
   refine RetOb.plain (d := DB true) ⟨?_, rfl⟩ rfl
   rw [hi.2, List.drop_of_length_le hge]; rfl
 ·simp (maxSteps := 9999999) only [go_sem, TmOK, DM, DMs, CM, CMs, forall_eq, exists_eq_left, Mt, HpOK, LowOK]
  simp
end Go.Proofs.YtpphageokplgoaaGreat.CtR
namespace Go.Proofs.YtpphageokplgoaaGreat.CtR
open Go Go.CT CtF
theorem l2Stmt0 (p : Pg) (s : St1) : DC Tryz.prog 148 [.agg p.cells, .agg s.cells, DI .i64 (0 : Nat)] [] (fun r h => r = DB (stmtOK p 0 s) ∧ h = []) := by
 obtain ⟨vs, ar, bd⟩ := p
 obtain ⟨k, t, ⟨ik, iv, iks⟩, ⟨vk, vv, vks⟩, c, b, e⟩ := s
 refine dc_of_go Tryz.func148 rfl (by simp) ?_
 refine drv_sound (n := 100) (rs := _) Tryz.func148 mo rfl none _ _ ?_
 simp (maxSteps := 9999999) only [go_sem]
 refine XK.gskip 2 false (DB false) ?_
 refine drv_sound (n := 100) (rs := _) Tryz.func148 mo rfl (some _) _ _ ?_
 simp (maxSteps := 9999999) only [go_sem]
 exact RetOb.plain (d := DB false) ⟨rfl, rfl⟩ rfl
theorem l2StmtOf (p : Pg) (hl : p.vars.length ≤ mx) (hl2 : p.arrays.length ≤ mx) (d : Nat) (hd : d + 1 ≤ 5)
 (ih : ∀ l, lsize d l ≤ 1099511627776 → DC Tryz.prog 96 [.agg p.cells, .c (.isl 11 (St1.cellsL l)), DI .i64 d] [] (fun r h => r = DB (l.all (stmtOK p d)) ∧ h = []))
 (s : St1) (hs : tsize (d + 1) s ≤ 1099511627776) :
 DC Tryz.prog 148 [.agg p.cells, .agg s.cells, DI .i64 (d + 1 : Nat)] [] (fun r h => r = DB (stmtOK p (d + 1) s) ∧ h = []) := by
 obtain ⟨vs, ar, bd⟩ := p
 obtain ⟨k, t, ⟨ik, iv, iks⟩, ⟨vk, vv, vks⟩, c, b, e⟩ := s
 have hsb : lsize d b ≤ 1099511627776 := by simp only [tsize] at hs; unfold lsize; omega
 have hse : lsize d e ≤ 1099511627776 := by simp only [tsize] at hs; unfold lsize; omega
 have hd1 : ((d : Int) + 1 < 1) = False := eq_false (by omega)
 generalize hB : stmtOK _ _ _ = B
 simp only [stmtOK, headOK] at hB
 have hp := l2Parts (.mk k t (.mk ik iv iks) (.mk vk vv vks) c b e)
 simp only [St1.kind, St1.target, St1.index, St1.value, St1.count, St1.body, St1.els] at hp
 generalize hP : parts _ _ _ _ _ _ _ = PB at hp hB
 have hr := fun x => l2Right ⟨vs, ar, bd⟩ x hl hl2
 refine dc_of_go Tryz.func148 rfl (by simp) ?_
 refine drv_sound (n := 100) (rs := _) Tryz.func148 mo rfl none _ _ ?_
 simp (maxSteps := 9999999) only [go_sem]
 refine XK.gplain 2 false (!(decide ((d : Int) + 1 < 1))) (fun _ => hp) ok187 ?_ (hok := by intro hx; simp [okP, getCall, Call.operands, evT, upd, peelB, DB, DI, cst, one] at hx ⊢; first | done | exact hx | (simp_all; done) | omega)
 have hyes : PB = false ∨ PB = true := by cases PB <;> simp
 rcases hyes with hno | hyes
 ·subst hno
  refine drv_sound (n := 100) (rs := _) Tryz.func148 mo rfl (some _) _ _ ?_
  simp (maxSteps := 9999999) only [go_sem, hd1]
  refine RetOb.plain (d := DB false) ⟨?_, rfl⟩ rfl
  rw [← hB]; rfl
 subst hyes
 have hB' := hB
 rcases (by omega : k = 1 ∨ k = 5 ∨ k = 2 ∨ k = 3 ∨ k = 4 ∨ (k ≠ 1 ∧ k ≠ 5 ∧ k ≠ 2 ∧ k ≠ 3 ∧ k ≠ 4)) with hk | hk | hk | hk | hk | ⟨h1, h5, h2, h3, h4⟩
 iterate 2
  ·subst hk
   refine drv_sound (n := 100) (rs := _) Tryz.func148 mo rfl (some _) _ _ ?_
   simp (maxSteps := 9999999) only [go_sem, hd1]
   refine XK.gplain 11 true (decide (0 ≤ t) && decide (t < vs.length)) (fun _ => hr (.mk vk vv vks)) ok141 ?_ (hbT ())
   refine drv_sound (n := 100) (rs := _) Tryz.func148 mo rfl (some _) _ _ ?_
   simp (maxSteps := 9999999) only [go_sem]
   refine RetOb.plain (d := DB _) ⟨?_, rfl⟩ rfl
   rw [← hB]
   simp only [DB]; congr 3
   have hbe : parts _ t (.mk ik iv iks) (.mk vk vv vks) c b.length e.length = true := hP
   simp [parts, blk] at hbe
   have hb0 : b = [] := by cases b <;> simp_all
   have he0 : e = [] := by cases e <;> simp_all
   subst hb0 he0
   simp
 ·subst hk
  refine drv_sound (n := 100) (rs := _) Tryz.func148 mo rfl (some _) _ _ ?_
  simp (maxSteps := 9999999) only [go_sem, hd1]
  refine XK.gplain 11 true (decide (0 ≤ t) && decide (t < ar.length)) (fun _ => hr (.mk ik iv iks)) ok141 ?_ (hbT ())
  refine drv_sound (n := 100) (rs := _) Tryz.func148 mo rfl (some _) _ _ ?_
  simp (maxSteps := 9999999) only [go_sem]
  refine XK.gplain 17 true (decide (0 ≤ t) && decide (t < ar.length) && right ⟨vs, ar, bd⟩ (.mk ik iv iks)) (fun _ => l2Atom (.mk ik iv iks)) ok188 ?_ (hbT ())
  refine drv_sound (n := 100) (rs := _) Tryz.func148 mo rfl (some _) _ _ ?_
  simp (maxSteps := 9999999) only [go_sem]
  refine XK.gplain 22 true (decide (0 ≤ t) && decide (t < ar.length) && right ⟨vs, ar, bd⟩ (.mk ik iv iks) && atom (.mk ik iv iks)) (fun _ => hr (.mk vk vv vks)) ok141 ?_ (hbT ())
  refine drv_sound (n := 100) (rs := _) Tryz.func148 mo rfl (some _) _ _ ?_
  simp (maxSteps := 9999999) only [go_sem]
  refine RetOb.plain (d := DB _) ⟨?_, rfl⟩ rfl
  rw [← hB]
  simp only [DB]; congr 3
  have hbe : parts _ t (.mk ik iv iks) (.mk vk vv vks) c b.length e.length = true := hP
  simp [parts, blk] at hbe
  have hb0 : b = [] := by cases b <;> simp_all
  have he0 : e = [] := by cases e <;> simp_all
  subst hb0 he0
  simp
 ·subst hk
  refine drv_sound (n := 100) (rs := _) Tryz.func148 mo rfl (some _) _ _ ?_
  simp (maxSteps := 9999999) only [go_sem, hd1]
  refine XK.plain (hr (.mk vk vv vks)) ok141 ?_ (hbT ())
  refine drv_sound (n := 100) (rs := _) Tryz.func148 mo rfl (some _) _ _ ?_
  simp (maxSteps := 9999999) only [go_sem]
  refine ⟨fun h => ⟨h, by simp only [InK]; omega⟩, ?_⟩
  refine XK.gplain 4 true (right ⟨vs, ar, bd⟩ (.mk vk vv vks)) (fun _ => ih b hsb) ok96 ?_ (hbT ())
  refine drv_sound (n := 100) (rs := _) Tryz.func148 mo rfl (some _) _ _ ?_
  simp (maxSteps := 9999999) only [go_sem]
  refine ⟨fun h => ⟨h, by simp only [InK]; omega⟩, ?_⟩
  refine XK.gplain 12 true (right ⟨vs, ar, bd⟩ (.mk vk vv vks) && b.all (stmtOK ⟨vs, ar, bd⟩ d)) (fun _ => ih e hse) ok96 ?_ (hbT ())
  refine drv_sound (n := 100) (rs := _) Tryz.func148 mo rfl (some _) _ _ ?_
  simp (maxSteps := 9999999) only [go_sem]
  refine RetOb.plain (d := DB _) ⟨?_, rfl⟩ rfl
  rw [← hB]
  simp [DB]
 ·subst hk
  refine drv_sound (n := 100) (rs := _) Tryz.func148 mo rfl (some _) _ _ ?_
  simp (maxSteps := 9999999) only [go_sem, hd1]
  (repeat' with_reducible apply And.intro) <;> (try first | omega | (simp only [InK]; omega) | (intro k e; cases e; rfl) | (intro hguard; exact ⟨hguard, by simp only [InK]; omega⟩) | kernel_rfl)
  refine XK.plain (ih b hsb) ok96 ?_ (hbT ())
  refine drv_sound (n := 100) (rs := _) Tryz.func148 mo rfl (some _) _ _ ?_
  simp (maxSteps := 9999999) only [go_sem]
  refine RetOb.plain (d := DB _) ⟨?_, rfl⟩ rfl
  rw [← hB]
  have hbe : parts _ t (.mk ik iv iks) (.mk vk vv vks) c b.length e.length = true := hP
  simp [parts, blk] at hbe
  have he0 : e = [] := by cases e <;> simp_all
  subst he0
  simp [DB]
 ·have e1 : (k == 1) = false := by simp [h1]
  have e2 : (k == 2) = false := by simp [h2]
  have e3 : (k == 3) = false := by simp [h3]
  have e4 : (k == 4) = false := by simp [h4]
  have e5 : (k == 5) = false := by simp [h5]
  refine drv_sound (n := 100) (rs := _) Tryz.func148 mo rfl (some _) _ _ ?_
  simp (maxSteps := 9999999) only [go_sem, hd1, e1, e2, e3, e4, e5, h1, h2, h3, h4, h5]
  refine RetOb.plain (d := DB false) ⟨?_, rfl⟩ rfl
  rw [← hB]
  simp [DB, h1, h2, h3, h4, h5]
end Go.Proofs.YtpphageokplgoaaGreat.CtR
namespace Go.Proofs.YtpphageokplgoaaGreat.CtR
open Go Go.CT CtF
theorem l2Both (p : Pg) (hl : p.vars.length ≤ mx) (hl2 : p.arrays.length ≤ mx) : ∀ d : Nat, d ≤ 5 → ∀ l, lsize d l ≤ 1099511627776 → DC Tryz.prog 96 [.agg p.cells, .c (.isl 11 (St1.cellsL l)), DI .i64 d] [] (fun r h => r = DB (l.all (stmtOK p d)) ∧ h = [])
 | 0, h5, l, h => l2BlockOf p 0 h5 (fun s _ => l2Stmt0 p s) l h
 | d + 1, h5, l, h => l2BlockOf p (d + 1) h5 (fun s hs => l2StmtOf p hl hl2 d h5 (fun l' h' => l2Both p hl hl2 d (by omega) l' h') s hs) l h
def subs (d : Nat) (s : St1) : Nat := lsize d s.body + lsize d s.els
theorem tsize_subs (d : Nat) (s : St1) : tsize (d + 1) s = 1 + subs d s := by cases s; simp [tsize, subs, lsize, St1.body, St1.els]; omega
theorem lsize_subs (d : Nat) (l : List St1) : lsize (d + 1) l = l.length + (l.map (subs d)).sum := by
 unfold lsize
 induction l with
 | nil => rfl
 | cons a r ih => simp only [List.map_cons, List.sum_cons, List.length_cons, tsize_subs, ih]; omega
theorem lsize_zero (l : List St1) : lsize 0 l = 0 := by
 unfold lsize
 induction l with
 | nil => rfl
 | cons a r ih => simp only [List.map_cons, List.sum_cons, ih]; rfl
theorem subs_zero (s : St1) : subs 0 s = 0 := by simp [subs, lsize_zero]
theorem tsum_subs_zero (l : List St1) (i : Nat) : tsum (subs 0) l i = 0 := by
 unfold tsum
 induction (l.take i) with
 | nil => rfl
 | cons a r ih => rw [List.map_cons, List.sum_cons, subs_zero, ih]
theorem l2Size : ∀ (d : Nat), d + 1 ≤ 5 → ∀ l, lsize (d + 1) l ≤ 1099511627776 → DC Tryz.prog 97 [.c (.isl 11 (St1.cellsL l)), DI .i64 (d + 1 : Nat)] [] (fun r h => r = DI .i64 (lsize (d + 1) l) ∧ h = []) := by
 intro d
 induction d using Nat.strongRecOn with
 | _ d ih =>
  intro hd l hl
  have hls := lsize_subs d l
  refine dc_of_go Tryz.func97 rfl (by simp) ?_
  refine drv_sound (n := 100) (rs := _) Tryz.func97 mo rfl none _ _ ?_
  simp (maxSteps := 9999999) only [go_sem]
  refine Go.loopL (fun i : Nat => [(0, .c (.isl 11 (St1.cellsL l))), (1, DI .i64 (d + 1 : Nat)), (5, DI .i64 (l.length + tsum (subs d) l i : Nat)), (6, DI .i64 i)]) (fun _ => []) 1024 (fun i => i ≤ l.length) (fun i => l.length - i) ?_ 0 some [] _ (Nat.zero_le _) ?_
  ·intro i hi again
   have ht := tsum_le (subs d) l i
   have ret : ∀ (n : Nat) (hp : Hp), n = lsize (d + 1) l → RetOb 0 (fun r h => r = DI .i64 (lsize (d + 1) l) ∧ h = []) (DI .i64 n) hp := fun n hp h => RetOb.plain (d := DI .i64 _) ⟨by rw [h], rfl⟩ rfl
   refine drv_sound (n := 100) (rs := _) Tryz.func97 mo rfl none _ _ ?_
   rcases Nat.lt_or_ge i l.length with hlt | hge
   ·cases d with
    | zero =>
     simp (maxSteps := 9999999) only [go_sem, hlt, Int.natCast_zero]
     refine ret _ _ ?_
     rw [hls, tsum_subs_zero]
     rw [← tsum_all (subs 0) l (Nat.le_refl _), tsum_subs_zero]
    | succ d =>
     obtain ⟨⟨k, t, ⟨ik, iv, iks⟩, ⟨vk, vv, vks⟩, c, b, e⟩, hx⟩ : ∃ x, l[i]? = some x := ⟨l[i], by simp [hlt]⟩
     have hd1 : (1 < ((d : Int) + 1) + 1) = True := eq_true (by omega)
     have hs := tsum_succ (subs (d + 1)) l i _ hx
     have ht2 := tsum_le (subs (d + 1)) l (i + 1)
     simp only [subs, St1.body, St1.els] at hs
     simp (maxSteps := 9999999) only [go_sem, hx, hlt, hd1]
     (repeat' with_reducible apply And.intro) <;> (try first | omega | (simp only [InK]; omega) | (intro k e; cases e; rfl) | (intro hguard; exact ⟨hguard, by simp only [InK]; omega⟩) | kernel_rfl)
     refine XK.plain (ih d (by omega) (by omega) b (by omega)) ok97 ?_ (hbT ()) (fun _ => by kernel_rfl)
     refine drv_sound (n := 100) (rs := _) Tryz.func97 mo rfl (some _) _ _ ?_
     simp (maxSteps := 9999999) only [go_sem, hx]
     (repeat' with_reducible apply And.intro) <;> (try first | omega | (simp only [InK]; omega) | (intro k e; cases e; rfl) | (intro hguard; exact ⟨hguard, by simp only [InK]; omega⟩) | kernel_rfl)
     refine XK.plain (ih d (by omega) (by omega) e (by omega)) ok97 ?_ (hbT ()) (fun _ => by kernel_rfl)
     refine drv_sound (n := 100) (rs := _) Tryz.func97 mo rfl (some _) _ _ ?_
     simp (maxSteps := 9999999) only [go_sem, hx]
     (repeat' with_reducible apply And.intro) <;> (try first | omega | (simp only [InK]; omega) | (intro k e; cases e; rfl) | (intro hguard; exact ⟨hguard, by simp only [InK]; omega⟩) | kernel_rfl)
     refine again (i + 1) some [] _ (by omega) (by omega) (Mt.slots ?_)
     simp (maxSteps := 9999999) only [go_sem, TmOK, DM, DMs, CM, CMs, forall_eq, exists_eq_left, hs]
     congr 1; omega
   ·have hn : ¬ i < l.length := by omega
    simp (maxSteps := 9999999) only [go_sem, hn]
    refine ret _ _ ?_
    rw [hls, tsum_all _ _ hge]
  ·refine Mt.slots ?_
   simp (maxSteps := 9999999) only [go_sem, TmOK, DM, DMs, CM, CMs, forall_eq, exists_eq_left]
   rfl
def progOK (p : Pg) : Bool := headsOK p.vars p.arrays && p.body.all (stmtOK p 5) && decide ((lsize 5 p.body : Int) ≤ 60)
theorem programValidS (p : Pg) (hl : p.vars.length ≤ mx) (hl2 : p.arrays.length ≤ mx) (hb : lsize 5 p.body ≤ 1099511627776) : DC Tryz.prog 52 [.agg p.cells] [] (fun r h => r = DB (progOK p) ∧ h = []) := by
 obtain ⟨vs, ar, bd⟩ := p
 refine dc_of_go Tryz.func52 rfl (by simp) ?_
 refine drv_sound (n := 100) (rs := _) Tryz.func52 mo rfl none _ _ ?_
 simp (maxSteps := 9999999) only [go_sem]
 refine XK.plain (l2Heads ⟨vs, ar, bd⟩ hl hl2) ok95 ?_ (hbT ())
 refine drv_sound (n := 100) (rs := _) Tryz.func52 mo rfl (some _) _ _ ?_
 simp (maxSteps := 9999999) only [go_sem]
 refine XK.gplain 2 true (headsOK vs ar) (fun _ => l2Both ⟨vs, ar, bd⟩ hl hl2 5 (by omega) bd hb) ok96 ?_ (hbT ()) (hok := by intro hx; simp [okP, getCall, Call.operands, evT, upd, peelB, DB, DI, cst, one] at hx ⊢; first | done | exact hx | (simp_all; done) | omega)
 refine drv_sound (n := 100) (rs := _) Tryz.func52 mo rfl (some _) _ _ ?_
 simp (maxSteps := 9999999) only [go_sem]
 refine XK.gplain 8 true (headsOK vs ar && bd.all (stmtOK ⟨vs, ar, bd⟩ 5)) (fun _ => l2Size 4 (by omega) bd hb) ok97 ?_ (hbT ()) (hok := by intro hx; simp [okP, getCall, Call.operands, evT, upd, peelB, DB, DI, cst, one] at hx ⊢; first | done | exact hx | (simp_all; done) | omega)
 refine drv_sound (n := 100) (rs := _) Tryz.func52 mo rfl (some _) _ _ ?_
 simp (maxSteps := 9999999) only [go_sem]
 refine RetOb.plain (d := DB _) ⟨?_, rfl⟩ rfl
 simp [DB, progOK]
end Go.Proofs.YtpphageokplgoaaGreat.CtR
namespace Go.Proofs.YtpphageokplgoaaGreat.CtR
open Go Go.CT CtF
def okB (p : Pg) (d : Nat) (l : List St1) (c : Nat) : Bool := l.all (stmtOK p d) && decide (c + lsize d l ≤ 60)
def okS (p : Pg) (d : Nat) (s : St1) (c : Nat) : Bool := stmtOK p d s && decide (c + tsize d s ≤ 60)
def stmtsR (p : Pg) (d : Nat) (l : List St1) (c : Nat) (r : D) (h : List (Option (List C))) : Prop := ∃ c' : Nat, r = DB (okB p d l c) ∧ h = [some [I64 c']] ∧ c' ≤ 61 ∧ (okB p d l c = true → c' = c + lsize d l)
def stmtR (p : Pg) (d : Nat) (s : St1) (c : Nat) (r : D) (h : List (Option (List C))) : Prop := ∃ c' : Nat, r = DB (okS p d s c) ∧ h = [some [I64 c']] ∧ c' ≤ 61 ∧ (okS p d s c = true → c' = c + tsize d s)
theorem tsum_ge {α : Type} {f : α → Nat} : ∀ {l : List α} {i : Nat}, i ≤ l.length → (∀ x ∈ l.take i, 1 ≤ f x) → i ≤ tsum f l i := by
 intro l i hi h
 have := len_le_sum f (l.take i) h
 rw [List.length_take, Nat.min_eq_left hi] at this
 exact this
theorem okB_of {p : Pg} {d : Nat} {l : List St1} {c i : Nat} {x : St1} (hx : l[i]? = some x) (h : okS p d x (c + tsum (tsize d) l i) = false) : false = okB p d l c := by
 symm
 rw [Bool.eq_false_iff] at h ⊢
 intro h2
 apply h
 simp only [okB, okS, Bool.and_eq_true, decide_eq_true_eq, List.all_eq_true] at h2 ⊢
 refine ⟨h2.1 x (List.mem_of_getElem? hx), ?_⟩
 have h3 := tsum_succ (tsize d) l i x hx
 have h4 := tsum_le (tsize d) l (i + 1)
 have h5 := h2.2
 unfold lsize at h5
 omega
theorem stmtOK_pos {p : Pg} {d : Nat} {s : St1} (h : stmtOK p d s = true) : 1 ≤ tsize d s := by
 cases d with
 | zero => simp [stmtOK] at h
 | succ d => exact tsize_pos s
theorem stmtsOf (p : Pg) (d : Nat) (deep : Int) (hsum : deep + d = 6)
 (ih : ∀ (s : St1) (c : Nat), c ≤ 60 → DC Tryz.prog 109 [.agg p.cells, .agg s.cells, DI .i64 deep, .c (.ptr 0 0)] [some [I64 c]] (stmtR p d s c))
 (l : List St1) (c : Nat) (hc : c ≤ 60) : DC Tryz.prog 60 [.agg p.cells, .c (.isl 11 (St1.cellsL l)), DI .i64 deep, .c (.ptr 0 0)] [some [I64 c]] (stmtsR p d l c) := by
 obtain ⟨vs, ar, bd⟩ := p
 have ret : ∀ (b : Bool) (c' : Nat) (hp : Hp), b = okB ⟨vs, ar, bd⟩ d l c → hp 0 = some (some [I64 c']) → c' ≤ 61 → (b = true → c' = c + lsize d l) → RetOb 1 (stmtsR ⟨vs, ar, bd⟩ d l c) (DB b) hp :=
  fun b c' hp hb hhp h16 ht => RetOb.keep1 (d := DB b) (cs := [I64 c']) ⟨c', by rw [hb], rfl, h16, by rw [← hb]; exact ht⟩ hhp (by simp [kf]) rfl
 refine dc_of_go Tryz.func60 rfl (by simp) ?_
 refine drv_sound (n := 100) (rs := _) Tryz.func60 mo rfl none _ _ ?_
 simp (maxSteps := 9999999) only [go_sem]
 refine Go.loopL (fun i : Nat => [(2, DI .i64 deep), (3, .c (.ptr 0 0)), (4, .c (.ptr 1 0)), (11, .c (.isl 11 (St1.cellsL l))), (12, DI .i64 l.length), (13, DI .i64 i)]) (fun i => [(0, some [I64 (c + tsum (tsize d) l i : Nat)]), (1, some (Pg.cells ⟨vs, ar, bd⟩))]) 65536 (fun i => i ≤ l.length ∧ (∀ x ∈ l.take i, stmtOK ⟨vs, ar, bd⟩ d x = true) ∧ c + tsum (tsize d) l i ≤ 60) (fun i => l.length - i) ?_ 0 some [] _ ⟨Nat.zero_le _, by simp, by simp only [tsum_zero]; omega⟩ ?_
 ·intro i ⟨hi, hall, hcnt⟩ again
  refine drv_sound (n := 100) (rs := _) Tryz.func60 mo rfl none _ _ ?_
  rcases Nat.lt_or_ge i l.length with hlt | hge
  ·obtain ⟨⟨k, t, ⟨ik, iv, iks⟩, ⟨vk, vv, vks⟩, co, b, e⟩, hx⟩ : ∃ x, l[i]? = some x := ⟨l[i], by simp [hlt]⟩
   simp (maxSteps := 9999999) only [go_sem, hx, hlt]
   (repeat' with_reducible apply And.intro) <;> (try first | omega | (simp only [InK]; omega) | (intro k e; cases e; rfl) | (intro hguard; exact ⟨hguard, by simp only [InK]; omega⟩) | kernel_rfl)
   refine XK.callG [0] (ih (.mk k t (.mk ik iv iks) (.mk vk vv vks) co b e) (c + tsum (tsize d) l i) hcnt) ok109 (hhp_one rfl) (hbT ()) (fun d h' ⟨c', _, e, _⟩ => by subst e; simp) ?_
   rintro _ h' ⟨c', rfl, rfl, hc61, htr⟩ _
   refine drv_sound (n := 100) (rs := _) Tryz.func60 mo rfl (some _) _ _ ?_
   simp (maxSteps := 9999999) only [go_sem]
   refine ⟨fun hf => ret _ c' _ (okB_of hx hf) (by simp [I64, upd_same]) hc61 (by simp), fun hf => ?_⟩
   have he := htr hf
   have hs := tsum_succ (tsize d) l i _ hx
   simp only [okS, Bool.and_eq_true, decide_eq_true_eq] at hf
   have hall2 := take_succ_mem hx hall hf.1
   have hge := tsum_ge (f := tsize d) (show i + 1 ≤ l.length from hlt) fun x hx => stmtOK_pos (hall2 x hx)
   refine ⟨by simp only [InK]; omega, ?_⟩
   refine again (i + 1) some [] _ ⟨by omega, hall2, by omega⟩ (by omega) ?_
   rw [show c' = c + tsum (tsize d) l (i + 1) from by omega]
   simp (maxSteps := 9999999) only [go_sem, TmOK, DM, DMs, CM, CMs, forall_eq, exists_eq_left, Mt, HpOK, LowOK]
   simp
  ·have hn : ¬ i < l.length := by omega
   simp (maxSteps := 9999999) only [go_sem, hn]
   have e1 : c + tsum (tsize d) l i = c + lsize d l := by rw [tsum_all _ _ hge]; rfl
   refine ret _ _ _ ?_ (by first | rfl | simp [I64, upd_same]) (by omega) (fun _ => e1)
   symm
   simp only [okB, Bool.and_eq_true, decide_eq_true_eq, List.all_eq_true]
   exact ⟨fun x hx => hall x (by rw [List.take_of_length_le hge]; exact hx), by omega⟩
 ·simp (maxSteps := 9999999) only [go_sem, TmOK, DM, DMs, CM, CMs, forall_eq, exists_eq_left, Mt, HpOK, LowOK, tsum_zero]
  simp
end Go.Proofs.YtpphageokplgoaaGreat.CtR
