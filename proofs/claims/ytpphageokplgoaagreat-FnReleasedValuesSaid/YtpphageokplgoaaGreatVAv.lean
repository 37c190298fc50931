/- Contracts of functions of the program, one behind the other, as plain data: what each call returns and which blocks it leaves. -/
import Derived.Test.YtpphageokplgoaaGreatVFacts
import Derived.Test.YtpphageokplgoaaGreatVAj
import Derived.Test.YtpphageokplgoaaGreatVAk
import Derived.Test.YtpphageokplgoaaGreatVAl
import Derived.Test.YtpphageokplgoaaGreatVAo
import Derived.Test.YtpphageokplgoaaGreatVAr
import Derived.Test.YtpphageokplgoaaGreatVAu
import Derived.Test.YtpphageokplgoaaGreatVAm
import Derived.Test.YtpphageokplgoaaGreatVAn
import Derived.Test.YtpphageokplgoaaGreatVAs
set_option linter.unusedVariables false
set_option linter.unusedSimpArgs false
set_option maxHeartbeats 16000000
set_option maxRecDepth 100000
namespace Go.Proofs.YtpphageokplgoaaGreat.CtR
open Go Go.CT CtF
theorem hhp_each1 {hp : Hp} {r : Nat → Nat} {h0 : Option (List C)} (e0 : hp 0 = some (h0.map (renCs r))) :
 ∀ i' x, [h0][i']? = some x → hp ([0].getD i' 0) = some (x.map (renCs r)) := by
 intro i' x hx
 match i', hx with
 | 0, hx => simp only [List.getElem?_cons_zero, List.getElem?_cons_succ, Option.some.injEq] at hx; subst hx; exact e0
 | i' + 1, hx => simp at hx
theorem rkid_each1 (b : Nat) : ∀ k, k < 1 → rk0 [0] b k = k := fun k hk => by
 match k, hk with
 | 0, _ => rfl
theorem rkey_each1 (b : Nat) : ∀ k, k < 1 → rkey [0] b k = k := fun k hk => by
 match k, hk with
 | 0, _ => rfl
theorem each1 {X : Type} (p : Pg) (hl : p.vars.length ≤ mx) (hl2 : p.arrays.length ≤ mx) (h1 : lab3 p.vars) (h2 : lab3 p.arrays) (F : FuncId) (hF : fnOK Tryz.prog F = true)
 (b0 : X → List C) (hr0 : ∀ x r, (∀ k, k < 1 → r k = k) → renCs r (b0 x) = b0 x) (hc0 : ∀ x hT hS fz, (∀ k, k < 1 → hT k ≠ none) → CMs hT some hS fz (b0 x) (b0 x)) (step : X → St1 → Nat → X) (Inv : Nat → X → Prop)
 (hcl : ∀ d x s (c q : Nat), q < 1000 → Inv q x → c ≤ 3 → stmtOK p d s = true → Inv (q + 1) (step x s c) ∧ DC Tryz.prog F [.agg s.cells, DI .i64 c, .c (.ptr 0 0)] [some (b0 x)] (fun r h => r = .tup [] ∧ h = [some (b0 (step x s c))])) :
 ∀ (d : Nat) (l : List St1) (x : X) (c q : Nat), Inv q x → c ≤ 3 → (∀ s ∈ l, stmtOK p d s = true) → q + lsize d l ≤ 1000 →
  Inv (q + lsize d l) (eachF p.vars p.arrays step d c x l) ∧ DC Tryz.prog 68 [.agg p.cells, .c (.isl 11 (St1.cellsL l)), DI .i64 c, .c (.clo F [.ptr 0 0])] [some (b0 x)] (fun r h => r = .tup [] ∧ h = [some (b0 (eachF p.vars p.arrays step d c x l))]) := by
 have hmx := mx_eq
 intro d
 induction d with
 | zero =>
  intro l x c q hx hc hok hsz
  have hnil : l = [] := by
   cases l with
   | nil => rfl
   | cons a r => have := hok a (by simp); simp [stmtOK] at this
  subst hnil
  refine ⟨by rw [lsize_zero]; exact hx, ?_⟩
  obtain ⟨vs, ar, bd⟩ := p
  simp only [eachF]
  generalize hR : (fun (r : D) (h : List (Option (List C))) => r = .tup [] ∧ h = [some (b0 x)]) = R
  refine dcZ Tryz.func68 ?_
  simp (maxSteps := 9999999) only [go_sem, St1.cellsL, Int.natCast_zero]
  refine Go.loop ?_
  have hz : ((0 : Int) < 0) = False := eq_false (by omega)
  refine drvL Tryz.func68 ?_
  simp (maxSteps := 9999999) only [go_sem, St1.cellsL, Int.natCast_zero, hz]
  refine RetOb.ofQ some [] (.tup []) [some (b0 x)] ?_ (by rw [← hR]; exact ⟨rfl, rfl⟩) (by simp)
  simp [enumL, DMs, DM, HpOK, LowOK, hOf, upd, hpL]
  refine hc0 _ _ _ _ ?_
  all_goals (intro k hk; rcases (show k = 0 by omega) with rfl <;> simp [upd])
 | succ d ih =>
  intro l x c q hx hc hok hsz
  have hsub := lsize_subs d l
  have hll : l.length ≤ 1000 := by omega
  let f : X → St1 → X := fun x s => eachF p.vars p.arrays step d (ctxI p.vars p.arrays s c) (eachF p.vars p.arrays step d (ctxI p.vars p.arrays s c) (step x s c) s.body) s.els
  have hfold : ∀ i s, l[i]? = some s → (l.take (i + 1)).foldl f x = f ((l.take i).foldl f x) s := fun i s h => by
   rw [List.take_add_one, h]; simp
  have hres : eachF p.vars p.arrays step (d + 1) c x l = l.foldl f x := rfl
  have hf : ∀ (x : X) (s : St1), f x s = eachF p.vars p.arrays step d (ctxI p.vars p.arrays s c) (eachF p.vars p.arrays step d (ctxI p.vars p.arrays s c) (step x s c) s.body) s.els := fun _ _ => rfl
  clear_value f
  have hlabI := fun e => labelI p hl hl2 h1 h2 5 e
  have hlabL := fun e => labN_le h1 h2 5 e
  have e0 : ∀ y b, renCs (rkey [0] b) (b0 y) = b0 y := fun y b => hr0 y _ (rkey_each1 b)
  generalize hR : (fun (r : D) (h : List (Option (List C))) => r = .tup [] ∧ h = [some (b0 (eachF p.vars p.arrays step (d + 1) c x l))]) = R
  rw [hres] at hR
  rw [hres]
  have hK : ∀ (i : Nat) (s : St1), l[i]? = some s → q + tsum (tsize (d + 1)) l i + 1 + lsize d s.body + lsize d s.els ≤ 1000 ∧ tsum (tsize (d + 1)) l (i + 1) = tsum (tsize (d + 1)) l i + 1 + lsize d s.body + lsize d s.els := fun i s hi => by
   have a1 := tsum_succ (tsize (d + 1)) l i s hi
   have a2 := tsum_le (tsize (d + 1)) l (i + 1)
   have a3 := tsize_subs d s
   have a4 : lsize (d + 1) l = (l.map (tsize (d + 1))).sum := rfl
   simp only [subs] at a3
   omega
  have hround : ∀ (i : Nat) (s : St1), l[i]? = some s → ∀ y, Inv (q + tsum (tsize (d + 1)) l i) y → ctxI p.vars p.arrays s c ≤ 3 ∧
   (Inv (q + tsum (tsize (d + 1)) l i + 1) (step y s c) ∧ DC Tryz.prog F [.agg s.cells, DI .i64 c, .c (.ptr 0 0)] [some (b0 y)] (fun r h => r = .tup [] ∧ h = [some (b0 (step y s c))])) := fun i s hi y hy => by
   have hmem := List.mem_of_getElem? hi
   have := (hK i s hi).1
   refine ⟨?_, hcl (d + 1) y s c _ (by omega) hy hc (hok s hmem)⟩
   unfold ctxI
   split
   ·exact or3 hc (hlabL _)
   ·exact hc
  have hsok : ∀ (i : Nat) (s : St1), l[i]? = some s → (∀ t ∈ s.body, stmtOK p d t = true) ∧ (∀ t ∈ s.els, stmtOK p d t = true) ∧ (s.kind = 3 → shape p 5 s.value = true) := fun i s hi => by
   have hs := hok s (List.mem_of_getElem? hi)
   obtain ⟨k, t, ix, v, cc, b, e⟩ := s
   obtain ⟨g1, g2, g3⟩ := stmtOK_succ hs
   refine ⟨g2, g3, fun hk => ?_⟩
   have hk : k = 3 := hk
   subst hk
   rcases head_kind g1 with h | h | h | h
   ·omega
   ·omega
   ·exact (right_shape h.2).1
   ·omega
  have hinv : ∀ i, i ≤ l.length → Inv (q + tsum (tsize (d + 1)) l i) ((l.take i).foldl f x) := fun i => by
   induction i with
   | zero => intro _; simpa [tsum] using hx
   | succ i ihi =>
    intro hi
    have hs : l[i]? = some l[i] := by simp [show i < l.length from hi]
    rw [hfold i _ hs, hf, (hK i _ hs).2]
    have hk := (hK i _ hs).1
    have g := hround i _ hs _ (ihi (by omega))
    have g2 := hsok i _ hs
    have b1 := (ih _ _ _ _ g.2.1 g.1 g2.1 (by omega)).1
    have b2 := (ih _ _ _ _ b1 g.1 g2.2.1 (by omega)).1
    have e : q + (tsum (tsize (d + 1)) l i + 1 + lsize d l[i].body + lsize d l[i].els) = q + tsum (tsize (d + 1)) l i + 1 + lsize d l[i].body + lsize d l[i].els := by omega
    rw [e]
    exact b2
  refine ⟨by have := hinv l.length (Nat.le_refl _); rw [List.take_length] at this; rw [tsum_all _ _ (Nat.le_refl _)] at this; exact this, ?_⟩
  obtain ⟨vs, ar, bd⟩ := p
  have h1 : lab3 vs := h1
  have h2 : lab3 ar := h2
  refine dcZ Tryz.func68 ?_
  simp (maxSteps := 9999999) only [go_sem]
  refine Go.loopQ (fun i : Nat => [(2, DI .i64 c), (3, .c (.clo F [.ptr 0 0])), (4, .c (.ptr 1 0)), (11, .c (.isl 11 (St1.cellsL l))), (12, DI .i64 l.length), (13, DI .i64 i)])
   (fun i => [(0, some (b0 ((l.take i).foldl f x))), (1, some (Pg.cells ⟨vs, ar, bd⟩))]) 4096 (fun i => i ≤ l.length) (fun i => l.length - i) ?_ 0 some [] _ (Nat.zero_le _) ?_
  ·intro i hi again
   have hIi := hinv i hi
   rcases Nat.lt_or_ge i l.length with hlt | hge
   ·obtain ⟨⟨k, t, ⟨ik, iv, iks⟩, ⟨vk, vv, vks⟩, cc, b, e⟩, hs⟩ : ∃ s, l[i]? = some s := ⟨l[i], by simp [hlt]⟩
    have hfi := hfold i _ hs
    obtain ⟨q1, q4, q5⟩ := hround i _ hs _ hIi
    obtain ⟨q6, q7, q8⟩ := hsok i _ hs
    have hk := (hK i _ hs).1
    simp only [St1.body, St1.els] at hk
    have ihb := ih b _ _ _ q4 q1 q6 (by omega)
    have ihe := ih e _ _ _ ihb.1 q1 q7 (by omega)
    have ihb2 := ihb.2
    have ihe2 := ihe.2
    have hll2 := hlabL (.mk vk vv vks)
    rw [hf] at hfi
    generalize (l.take i).foldl f x = y at *
    refine drvL Tryz.func68 ?_
    simp (maxSteps := 9999999) only [go_sem, hs, hlt]
    iterate 2 ((try (refine drvZ Tryz.func68 ?_; simp (maxSteps := 9999999) only [go_sem, hs, hlt])); (try ((with_reducible refine And.intro ?_ ?_) <;> (repeat' with_reducible apply And.intro) <;> try exact sd)))
    refine XK.callG [0] q5 hF (hhp_each1 (by rw [Option.map_some, hr0 _ _ (rkid_each1 _)]; rfl)) (hbT ()) (fun d h' ⟨_, e⟩ => by subst e; simp) ?_
    rintro _ _ ⟨rfl, rfl⟩ _
    by_cases hk : k = 3
    ·subst hk
     have hlb := hlabI (.mk vk vv vks) (q8 rfl)
     have hcx : ctxI vs ar (.mk 3 t (.mk ik iv iks) (.mk vk vv vks) cc b e) c = c ||| labN vs ar 5 (.mk vk vv vks) := by simp [ctxI, St1.kind, St1.value]
     iterate 4 ((try (refine drvZ Tryz.func68 ?_; simp (maxSteps := 9999999) only [go_sem, hs, hlt, e0])); (try ((with_reducible refine And.intro ?_ ?_) <;> (repeat' with_reducible apply And.intro) <;> try exact sd)))
     refine XK.plain hlb ok115 ?_ (hbT ())
     rw [hcx] at ihb2 ihe2 hfi q1
     generalize labN vs ar 5 (.mk vk vv vks) = lb at *
     iterate 4 ((try (refine drvZ Tryz.func68 ?_; simp (maxSteps := 9999999) only [go_sem, hs, hlt, e0])); (try ((with_reducible refine And.intro ?_ ?_) <;> (repeat' with_reducible apply And.intro) <;> try exact sd)))
     refine XK.callG [0] ihb2 ok68 (hhp_each1 (by rw [Option.map_some, hr0 _ _ (rkid_each1 _)]; rfl)) (hbT ()) (fun d h' ⟨_, e⟩ => by subst e; simp) ?_
     rintro _ _ ⟨rfl, rfl⟩ _
     iterate 4 ((try (refine drvZ Tryz.func68 ?_; simp (maxSteps := 9999999) only [go_sem, hs, hlt, e0])); (try ((with_reducible refine And.intro ?_ ?_) <;> (repeat' with_reducible apply And.intro) <;> try exact sd)))
     refine XK.callG [0] ihe2 ok68 (hhp_each1 (by rw [Option.map_some, hr0 _ _ (rkid_each1 _)]; rfl)) (hbT ()) (fun d h' ⟨_, e⟩ => by subst e; simp) ?_
     rintro _ _ ⟨rfl, rfl⟩ _
     iterate 4 ((try (refine drvZ Tryz.func68 ?_; simp (maxSteps := 9999999) only [go_sem, hs, hlt, e0])); (try ((with_reducible refine And.intro ?_ ?_) <;> (repeat' with_reducible apply And.intro) <;> try exact sd)))
     refine again (i + 1) some [] _ hlt (by omega) ?_
     simp (maxSteps := 9999999) only [go_sem, TmOK, DM, DMs, CM, CMs, forall_eq, exists_eq_left, Mq, HpOK, LowOK, hfi]
     simp
     refine hc0 _ _ _ _ ?_
     all_goals (intro k hk; rcases (show k = 0 by omega) with rfl <;> simp [upd])
    ·have hkb : (k == 3) = false := by simp [hk]
     have hcx : ctxI vs ar (.mk k t (.mk ik iv iks) (.mk vk vv vks) cc b e) c = c := by simp [ctxI, St1.kind, hk]
     rw [hcx] at ihb2 ihe2 hfi
     iterate 4 ((try (refine drvZ Tryz.func68 ?_; simp (maxSteps := 9999999) only [go_sem, hs, hlt, e0, hk, hkb])); (try ((with_reducible refine And.intro ?_ ?_) <;> (repeat' with_reducible apply And.intro) <;> try exact sd)))
     refine XK.callG [0] ihb2 ok68 (hhp_each1 (by rw [Option.map_some, hr0 _ _ (rkid_each1 _)]; rfl)) (hbT ()) (fun d h' ⟨_, e⟩ => by subst e; simp) ?_
     rintro _ _ ⟨rfl, rfl⟩ _
     iterate 4 ((try (refine drvZ Tryz.func68 ?_; simp (maxSteps := 9999999) only [go_sem, hs, hlt, e0])); (try ((with_reducible refine And.intro ?_ ?_) <;> (repeat' with_reducible apply And.intro) <;> try exact sd)))
     refine XK.callG [0] ihe2 ok68 (hhp_each1 (by rw [Option.map_some, hr0 _ _ (rkid_each1 _)]; rfl)) (hbT ()) (fun d h' ⟨_, e⟩ => by subst e; simp) ?_
     rintro _ _ ⟨rfl, rfl⟩ _
     iterate 4 ((try (refine drvZ Tryz.func68 ?_; simp (maxSteps := 9999999) only [go_sem, hs, hlt, e0])); (try ((with_reducible refine And.intro ?_ ?_) <;> (repeat' with_reducible apply And.intro) <;> try exact sd)))
     refine again (i + 1) some [] _ hlt (by omega) ?_
     simp (maxSteps := 9999999) only [go_sem, TmOK, DM, DMs, CM, CMs, forall_eq, exists_eq_left, Mq, HpOK, LowOK, hfi]
     simp
     refine hc0 _ _ _ _ ?_
     all_goals (intro k hk; rcases (show k = 0 by omega) with rfl <;> simp [upd])
   ·have hn : ¬ i < l.length := by omega
    obtain rfl : i = l.length := by omega
    refine drvL Tryz.func68 ?_
    simp (maxSteps := 9999999) only [go_sem, hn, List.take_length]
    iterate 2 ((try (refine drvZ Tryz.func68 ?_; simp (maxSteps := 9999999) only [go_sem, hn, List.take_length])); (try ((with_reducible refine And.intro ?_ ?_) <;> (repeat' with_reducible apply And.intro) <;> try exact sd)))
    refine RetOb.ofQ some [] (.tup []) [some (b0 (l.foldl f x))] ?_ (by rw [← hR]; exact ⟨rfl, rfl⟩) (by simp)
    simp [enumL, DMs, DM, HpOK, LowOK, hOf, upd, hpL]
    refine hc0 _ _ _ _ ?_
    all_goals (intro k hk; rcases (show k = 0 by omega) with rfl <;> simp [upd])
  ·simp (maxSteps := 9999999) only [go_sem, TmOK, DM, DMs, CM, CMs, forall_eq, exists_eq_left, Mq, HpOK, LowOK, List.take_zero, List.foldl_nil]
   simp
   refine hc0 _ _ _ _ ?_
   all_goals (intro k hk; rcases (show k = 0 by omega) with rfl <;> simp [upd])
end Go.Proofs.YtpphageokplgoaaGreat.CtR
namespace Go.Proofs.YtpphageokplgoaaGreat.CtR
open Go Go.CT CtF
end Go.Proofs.YtpphageokplgoaaGreat.CtR
namespace Go.Proofs.YtpphageokplgoaaGreat.CtD
open Go Go.CT CtF CtR
theorem runP_sm (p : Pg) (m : Mm) : (runP p m).1.vals.length ≤ 12 ∧ (runP p m).1.arrays.length ≤ 2 ∧ (∀ a ∈ (runP p m).1.arrays, a.length ≤ 4) ∧ (runP p m).2.1.length ≤ 1000000 := by
 cases hq : (progOK p && memOK p.vars p.arrays m) with
 | false => rw [runP_false hq]; simp
 | true =>
  rw [runP_true hq]
  have hm := memFits_of hq
  simp only [Bool.and_eq_true] at hq
  have hb := body_of hq.1
  have h := runL_ok hm hb.1
  have h2 := h.2
  rw [wt5] at h2
  refine ⟨by rw [h.1.nv]; exact hm.nv12.2, by rw [h.1.na]; exact hm.na2, fun a ha => by have := (h.1.arr a ha).1; omega, ?_⟩
  have := hb.2
  simp only
  omega
end Go.Proofs.YtpphageokplgoaaGreat.CtD
namespace Go.Proofs.YtpphageokplgoaaGreat.CtD
open Go Go.CT CtF CtR
theorem ctInts (xs ys : List Int) (hl : xs.length ≤ mx) : DC Tryz.prog 27 [ints xs, ints ys] [] (fun r h => r = DB (decide (xs = ys)) ∧ h = []) := by
 have hmx := mx_eq
 have ret : ∀ (b : Bool) (hp : Hp), b = decide (xs = ys) → RetOb 0 (fun r h => r = DB (decide (xs = ys)) ∧ h = []) (DB b) hp := fun b hp h => RetOb.plain (d := DB _) ⟨by rw [h], rfl⟩ rfl
 by_cases hlen : xs.length = ys.length
 ·have hb : ((xs.length : Int) != ys.length) = false := by simp [hlen]
  have he : ((xs.length : Int) = ys.length) = True := eq_true (by omega)
  refine dc_of_go Tryz.func27 rfl (by simp) ?_
  refine drv_sound (n := 100) (rs := _) Tryz.func27 mo rfl none _ _ ?_
  simp (maxSteps := 9999999) only [go_sem, ints, hb, he]
  refine Go.loopL (fun i : Nat => [(0, ints xs), (1, ints ys), (5, DI .i64 i)]) (fun _ => []) 1024 (fun i => i ≤ xs.length ∧ decide (xs = ys) = decide (xs.drop i = ys.drop i)) (fun i => xs.length - i) ?_ 0 some [] _ ⟨Nat.zero_le _, rfl⟩ ?_
  ·intro i hi again
   refine drv_sound (n := 100) (rs := _) Tryz.func27 mo rfl none _ _ ?_
   rcases Nat.lt_or_ge i xs.length with hlt | hge
   ·obtain ⟨x, hx⟩ : ∃ x, xs[i]? = some x := ⟨xs[i], by simp [hlt]⟩
    obtain ⟨y, hy⟩ : ∃ y, ys[i]? = some y := ⟨ys[i]'(by omega), by simp⟩
    have hI := hi.2
    obtain ⟨_, ex⟩ := List.getElem?_eq_some_iff.1 hx
    obtain ⟨hyl, ey⟩ := List.getElem?_eq_some_iff.1 hy
    rw [List.drop_eq_getElem_cons hlt, List.drop_eq_getElem_cons hyl, ex, ey] at hI
    simp (maxSteps := 9999999) only [go_sem, ints, hx, hy, hlt]
    (repeat' with_reducible apply And.intro) <;> (try first | omega | (simp only [InK]; omega) | (intro k e; cases e; rfl) | (intro hguard; exact ⟨hguard, by simp only [InK]; omega⟩) | kernel_rfl)
    ·intro hne; exact ret _ _ (by rw [hI]; simp [hne])
    ·intro heq; exact ⟨by simp only [InK]; omega, again (i + 1) some [] _ ⟨by omega, by rw [hI]; simp [heq]⟩ (by omega) (Mt.slots (by
      simp (maxSteps := 9999999) only [go_sem, TmOK, DM, DMs, CM, CMs, forall_eq, exists_eq_left, ints]))⟩
   ·have hn : ¬ i < xs.length := by omega
    simp (maxSteps := 9999999) only [go_sem, ints, hn]
    refine ret _ _ ?_
    rw [hi.2, List.drop_of_length_le hge, List.drop_of_length_le (by omega)]; rfl
  ·refine Mt.slots ?_
   simp (maxSteps := 9999999) only [go_sem, TmOK, DM, DMs, CM, CMs, forall_eq, exists_eq_left, ints]
 ·have hb : ((xs.length : Int) != ys.length) = true := by simp; omega
  have he : ((xs.length : Int) = ys.length) = False := eq_false (by omega)
  refine dc_of_go Tryz.func27 rfl (by simp) ?_
  refine drv_sound (n := 100) (rs := _) Tryz.func27 mo rfl none _ _ ?_
  simp (maxSteps := 9999999) only [go_sem, ints, hb, he]
  refine ret _ _ ?_
  symm; rw [decide_eq_false_iff_not]; intro h; exact hlen (by rw [h])
end Go.Proofs.YtpphageokplgoaaGreat.CtD
namespace Go.Proofs.YtpphageokplgoaaGreat.CtR
open Go Go.CT CtF
def occB (nv : Nat) (k v : Int) : Nat := if k = 2 then 2 ^ v.toNat else if k = 3 then 2 ^ (nv + v.toNat) else 0
def occN (nv : Nat) : Nat → Ex → Nat
 | 0, _ => 0
 | d + 1, .mk k v ks => (ks.map (occN nv d)).foldl (fun a b => a ||| b) (occB nv k v)
end Go.Proofs.YtpphageokplgoaaGreat.CtR
namespace Go.Proofs.YtpphageokplgoaaGreat.CtD
open Go Go.CT CtF CtR
theorem ownExpr (p : Pg) : ∀ (d : Nat) (e : Ex), CtR.shape p d e = true → DC Tryz.prog 92 [.agg e.cells] [] (fun r h => r = .agg e.cells ∧ h = []) := by
 have hmx := mx_eq
 intro d
 induction d with
 | zero => intro e h; simp [CtR.shape] at h
 | succ d ih =>
  intro e hsh
  obtain ⟨k, v, ks⟩ := e
  obtain ⟨g1, g2, g3⟩ := shape_succ hsh
  obtain ⟨hl3, hla, hv0, hv1⟩ := fits_len g1
  refine dcZ Tryz.func92 ?_
  simp (maxSteps := 9999999) only [go_sem]
  iterate 2 ((try (refine drvZ Tryz.func92 ?_; simp (maxSteps := 9999999) only [go_sem])); (try ((with_reducible refine And.intro ?_ ?_) <;> (repeat' with_reducible apply And.intro) <;> try exact sd)))
  refine Go.loopQ (fun i : Nat => [(1, .c (.ptr 0 0)), (2, .c (.ptr 64 0)), (3, .c (.ptr 66 0)), (12, .c (.isl 3 (Ex.cellsL ks))), (13, DI .i64 ks.length), (14, DI .i64 i)])
   (fun i => [(0, some (Ex.cells (.mk k v ks))), (64, some [I64 0, I64 0, .v (.slice none 0 0)]), (66, some [I64 k, I64 v, .msl 67 3 0 i]), (67, some (exC (ks.take i)))])
   4096 (fun i => i ≤ ks.length) (fun i => ks.length - i) ?_ 0 (fun j => if j = 66 then some 448 else if j = 67 then none else some j) [] _ (Nat.zero_le _) ?_
  ·intro i hi again
   rcases Nat.lt_or_ge i ks.length with hlt | hge
   ·obtain ⟨⟨k', v', ks'⟩, hx⟩ : ∃ x, ks[i]? = some x := ⟨ks[i], by simp [hlt]⟩
    have hsx : ks.take (i + 1) = ks.take i ++ [.mk k' v' ks'] := by rw [List.take_add_one, hx]; rfl
    have hel : (exC (ks.take i)).length = i * 3 := by rw [exC_len, List.length_take]; congr 1; omega
    refine drvL Tryz.func92 ?_
    simp (maxSteps := 9999999) only [go_sem, hx, hlt]
    iterate 2 ((try (refine drvZ Tryz.func92 ?_; simp (maxSteps := 9999999) only [go_sem, hx, hlt])); (try ((with_reducible refine And.intro ?_ ?_) <;> (repeat' with_reducible apply And.intro) <;> try exact sd)))
    refine XK.plain (ih _ (g2 _ (List.mem_of_getElem? hx))) ok92 ?_ (hbT ()) (fun _ => by kernel_rfl)
    iterate 4 ((try (refine drvZ Tryz.func92 ?_; simp (maxSteps := 9999999) only [go_sem, hx, hlt, hel])); (try ((with_reducible refine And.intro ?_ ?_) <;> (repeat' with_reducible apply And.intro) <;> try exact sd)))
    refine again (i + 1) (fun j => if j = 67 then some 4736 else some j) [] _ hlt (by omega) ?_
    simp (maxSteps := 9999999) only [go_sem, TmOK, DM, DMs, CM, CMs, forall_eq, exists_eq_left, Mq, HpOK, LowOK, hsx, exC_snoc]
    simp
    exact CMs.kf (kf_app (exC_kf _) (by simp [kf]))
   ·have hn : ¬ i < ks.length := by omega
    obtain rfl : i = ks.length := by omega
    refine drvL Tryz.func92 ?_
    simp (maxSteps := 9999999) only [go_sem, hn, List.take_length]
    iterate 2 ((try (refine drvZ Tryz.func92 ?_; simp (maxSteps := 9999999) only [go_sem, hn, List.take_length])); (try ((with_reducible refine And.intro ?_ ?_) <;> (repeat' with_reducible apply And.intro) <;> try exact sd)))
    refine RetOb.ofQ (fun j => none) [67] (.agg (Ex.cells (.mk k v ks))) [] ?_ ⟨rfl, rfl⟩ (by simp)
    have g1 : (Ex.cellsL ks).flatten = exC ks := by rw [Ex.cellsL_eq]; rfl
    have g2 : ∀ x ∈ Ex.cellsL ks, x.length = 3 := fun x hx => by rw [Ex.cellsL_eq] at hx; obtain ⟨e, _, rfl⟩ := List.mem_map.1 hx; exact Ex.cells_len e
    have g3 : ∀ x ∈ Ex.cellsL ks, ∀ c ∈ x, kf c = true := fun x hx => by rw [Ex.cellsL_eq] at hx; obtain ⟨e, _, rfl⟩ := List.mem_map.1 hx; exact ex_kf e
    simp only [enumL, hOf, DM, DMs, CM, CMs, HpOK, LowOK, upd, Ex.cells, Ex.cellsL_length, g1]
    first | (simp; exact ⟨g2, g3⟩) | (simp [g2]; exact g3) | exact ⟨g2, g3⟩
  ·simp (maxSteps := 9999999) only [go_sem, TmOK, DM, DMs, CM, CMs, forall_eq, exists_eq_left, Mq, HpOK, LowOK]
   simp [exC]
theorem ownExpr0 : DC Tryz.prog 92 [.agg (Ex.cells (.mk 0 0 []))] [] (fun r h => r = .agg (Ex.cells (.mk 0 0 [])) ∧ h = []) := by
 refine dcZ Tryz.func92 ?_
 simp (maxSteps := 9999999) only [go_sem, Ex.cellsL, Int.natCast_zero]
 iterate 2 ((try (refine drvZ Tryz.func92 ?_; simp (maxSteps := 9999999) only [go_sem, Ex.cellsL, Int.natCast_zero])); (try ((with_reducible refine And.intro ?_ ?_) <;> (repeat' with_reducible apply And.intro) <;> try exact sd)))
 refine Go.loop ?_
 have hz : ((0 : Int) < 0) = False := eq_false (by omega)
 refine drvL Tryz.func92 ?_
 simp (maxSteps := 9999999) only [go_sem, Ex.cellsL, Int.natCast_zero, hz]
 iterate 2 ((try (refine drvZ Tryz.func92 ?_; simp (maxSteps := 9999999) only [go_sem, Ex.cellsL, Int.natCast_zero, hz])); (try ((with_reducible refine And.intro ?_ ?_) <;> (repeat' with_reducible apply And.intro) <;> try exact sd)))
 refine RetOb.ofQ (fun j => none) [] (.agg (Ex.cells (.mk 0 0 []))) [] ?_ ⟨rfl, rfl⟩ (by simp)
 simp [enumL, hOf, DM, DMs, CM, CMs, HpOK, LowOK, upd, Ex.cells, Ex.cellsL]
end Go.Proofs.YtpphageokplgoaaGreat.CtD
namespace Go.Proofs.YtpphageokplgoaaGreat.CtD
open Go Go.CT CtF CtR
theorem none0_eq {e : Ex} (h : none0 e = true) : e = .mk 0 0 [] := by
 obtain ⟨k, v, ks⟩ := e
 simp only [none0, Ex.kind, Ex.value, Ex.kids, Bool.and_eq_true, beq_iff_eq, decide_eq_true_eq] at h
 obtain ⟨⟨rfl, rfl⟩, h3⟩ := h
 have : ks = [] := List.isEmpty_iff.1 h3
 rw [this]
theorem exprs_of {p : Pg} {d : Nat} {k t : Int} {ix v : Ex} {c : Int} {b e : List St1} (h : stmtOK p (d + 1) (.mk k t ix v c b e) = true) :
 (CtR.shape p 5 ix = true ∨ ix = .mk 0 0 []) ∧ (CtR.shape p 5 v = true ∨ v = .mk 0 0 []) := by
 have h1 := (stmtOK_succ h).1
 have hk := head_kind h1
 unfold headOK parts at h1
 rcases hk with ⟨hk, _, _, hr⟩ | ⟨rfl, _, _, hr, _, hr2⟩ | ⟨rfl, hr⟩ | ⟨rfl, _⟩
 ·refine ⟨.inr (none0_eq ?_), .inl (right_shape hr).1⟩
  have hk4 : k ≠ 4 := by omega
  have hk2 : (k == 2) = false := by simp; omega
  simp [hk4, hk2] at h1
  exact h1.1.2.2
 ·exact ⟨.inl (right_shape hr).1, .inl (right_shape hr2).1⟩
 ·refine ⟨.inr (none0_eq ?_), .inl (right_shape hr).1⟩
  simp at h1
  exact h1.1.2.2
 ·simp at h1
  refine ⟨.inr (none0_eq ?_), .inr (none0_eq ?_)⟩ <;> grind
end Go.Proofs.YtpphageokplgoaaGreat.CtD
namespace Go.Proofs.YtpphageokplgoaaGreat.CtD
open Go Go.CT CtF CtR
theorem ownE {p : Pg} {e : Ex} (h : CtR.shape p 5 e = true ∨ e = .mk 0 0 []) : DC Tryz.prog 92 [.agg e.cells] [] (fun r h => r = .agg e.cells ∧ h = []) := by
 rcases h with h | rfl
 ·exact ownExpr p 5 e h
 ·exact ownExpr0
theorem ownStmts (p : Pg) : ∀ (d : Nat) (l : List St1), (∀ s ∈ l, stmtOK p d s = true) → lsize d l ≤ 1000 → DC Tryz.prog 49 [.c (.isl 11 (St1.cellsL l))] [] (fun r h => r = .c (.isl 11 (St1.cellsL l)) ∧ h = []) := by
 have hmx := mx_eq
 intro d
 induction d with
 | zero =>
  intro l hok hsz
  have hnil : l = [] := by
   cases l with
   | nil => rfl
   | cons a r => have := hok a (by simp); simp [stmtOK] at this
  subst hnil
  refine dcZ Tryz.func49 ?_
  simp (maxSteps := 9999999) only [go_sem, St1.cellsL, Int.natCast_zero]
  ((try (refine drvZ Tryz.func49 ?_; simp (maxSteps := 9999999) only [go_sem, St1.cellsL, Int.natCast_zero])); (try ((with_reducible refine And.intro ?_ ?_) <;> (repeat' with_reducible apply And.intro) <;> try exact sd)))
  refine Go.loop ?_
  have hz : ((0 : Int) < 0) = False := eq_false (by omega)
  refine drvL Tryz.func49 ?_
  simp (maxSteps := 9999999) only [go_sem, St1.cellsL, Int.natCast_zero, hz]
  ((try (refine drvZ Tryz.func49 ?_; simp (maxSteps := 9999999) only [go_sem, St1.cellsL, Int.natCast_zero, hz])); (try ((with_reducible refine And.intro ?_ ?_) <;> (repeat' with_reducible apply And.intro) <;> try exact sd)))
  refine RetOb.ofQ (fun j => none) [] (.c (.isl 11 [])) [] ?_ ⟨rfl, rfl⟩ (by simp)
  simp [enumL, hOf, DM, CM, HpOK, LowOK, upd]
 | succ d ih =>
  intro l hok hsz
  have hsub := lsize_subs d l
  refine dcZ Tryz.func49 ?_
  simp (maxSteps := 9999999) only [go_sem]
  ((try (refine drvZ Tryz.func49 ?_; simp (maxSteps := 9999999) only [go_sem])); (try ((with_reducible refine And.intro ?_ ?_) <;> (repeat' with_reducible apply And.intro) <;> try exact sd)))
  refine Go.loopQ (fun i : Nat => [(3, .c (.msl 67 11 0 i)), (6, .c (.isl 11 (St1.cellsL l))), (7, DI .i64 l.length), (8, DI .i64 i)]) (fun i => [(67, some (stC (l.take i)))])
   4096 (fun i => i ≤ l.length) (fun i => l.length - i) ?_ 0 (fun j => none) [] _ (Nat.zero_le _) ?_
  ·intro i hi again
   rcases Nat.lt_or_ge i l.length with hlt | hge
   ·obtain ⟨⟨k, t, ⟨ik, iv, iks⟩, ⟨vk, vv, vks⟩, c, b, e⟩, hx⟩ : ∃ x, l[i]? = some x := ⟨l[i], by simp [hlt]⟩
    have hsx : l.take (i + 1) = l.take i ++ [.mk k t (.mk ik iv iks) (.mk vk vv vks) c b e] := by rw [List.take_add_one, hx]; rfl
    have hel : (stC (l.take i)).length = i * 11 := by rw [stC_len, List.length_take]; congr 1; omega
    have hsok := hok _ (List.mem_of_getElem? hx)
    have hex := exprs_of hsok
    have hbe := stmtOK_succ hsok
    have a1 := tsum_succ (subs d) l i _ hx
    have a2 := tsum_le (subs d) l (i + 1)
    simp only [subs, St1.body, St1.els] at a1 a2
    have ihb := ih b hbe.2.1 (by omega)
    have ihe := ih e hbe.2.2 (by omega)
    refine drvL Tryz.func49 ?_
    simp (maxSteps := 9999999) only [go_sem, hx, hlt]
    iterate 3 ((try (refine drvZ Tryz.func49 ?_; simp (maxSteps := 9999999) only [go_sem, hx, hlt])); (try ((with_reducible refine And.intro ?_ ?_) <;> (repeat' with_reducible apply And.intro) <;> try exact sd)))
    refine XK.plain (ownE hex.1) ok92 ?_ (hbT ()) (fun _ => by kernel_rfl)
    iterate 2 ((try (refine drvZ Tryz.func49 ?_; simp (maxSteps := 9999999) only [go_sem])); (try ((with_reducible refine And.intro ?_ ?_) <;> (repeat' with_reducible apply And.intro) <;> try exact sd)))
    refine XK.plain (ownE hex.2) ok92 ?_ (hbT ()) (fun _ => by kernel_rfl)
    iterate 2 ((try (refine drvZ Tryz.func49 ?_; simp (maxSteps := 9999999) only [go_sem])); (try ((with_reducible refine And.intro ?_ ?_) <;> (repeat' with_reducible apply And.intro) <;> try exact sd)))
    refine XK.plain ihb ok49 ?_ (hbT ()) (fun _ => by kernel_rfl)
    iterate 2 ((try (refine drvZ Tryz.func49 ?_; simp (maxSteps := 9999999) only [go_sem])); (try ((with_reducible refine And.intro ?_ ?_) <;> (repeat' with_reducible apply And.intro) <;> try exact sd)))
    refine XK.plain ihe ok49 ?_ (hbT ()) (fun _ => by kernel_rfl)
    iterate 4 ((try (refine drvZ Tryz.func49 ?_; simp (maxSteps := 9999999) only [go_sem, hel])); (try ((with_reducible refine And.intro ?_ ?_) <;> (repeat' with_reducible apply And.intro) <;> try exact sd)))
    refine again (i + 1) (fun j => if j = 67 then some 5760 else some j) [] _ hlt (by omega) ?_
    simp (maxSteps := 9999999) only [go_sem, TmOK, DM, DMs, CM, CMs, forall_eq, exists_eq_left, Mq, HpOK, LowOK, hsx, stC_snoc, List.cons_append, List.nil_append]
    simp
    exact CMs.kf (kf_app (stC_kf _) (by simp [kf]))
   ·have hn : ¬ i < l.length := by omega
    obtain rfl : i = l.length := by omega
    refine drvL Tryz.func49 ?_
    simp (maxSteps := 9999999) only [go_sem, hn, List.take_length]
    iterate 2 ((try (refine drvZ Tryz.func49 ?_; simp (maxSteps := 9999999) only [go_sem, hn, List.take_length])); (try ((with_reducible refine And.intro ?_ ?_) <;> (repeat' with_reducible apply And.intro) <;> try exact sd)))
    refine RetOb.ofQ (fun j => none) [67] (.c (.isl 11 (St1.cellsL l))) [] ?_ ⟨rfl, rfl⟩ (by simp)
    have g1 : (St1.cellsL l).flatten = stC l := by rw [St1.cellsL_eq]; rfl
    have g2 : ∀ x ∈ St1.cellsL l, x.length = 11 := fun x hx => by rw [St1.cellsL_eq] at hx; obtain ⟨e, _, rfl⟩ := List.mem_map.1 hx; exact St1.cells_len e
    have g3 : ∀ x ∈ St1.cellsL l, ∀ c ∈ x, kf c = true := fun x hx => by rw [St1.cellsL_eq] at hx; obtain ⟨e, _, rfl⟩ := List.mem_map.1 hx; exact st_kf e
    simp only [enumL, hOf, DM, DMs, CM, CMs, HpOK, LowOK, upd, St1.cellsL_length, g1]
    first | (simp; exact ⟨g2, g3⟩) | (simp [g2]; exact g3) | exact ⟨g2, g3⟩
  ·simp (maxSteps := 9999999) only [go_sem, TmOK, DM, DMs, CM, CMs, forall_eq, exists_eq_left, Mq, HpOK, LowOK]
   simp [stC]
end Go.Proofs.YtpphageokplgoaaGreat.CtD
namespace Go.Proofs.YtpphageokplgoaaGreat.CtD
open Go Go.CT CtF CtR
def cutS (q : Nat → Bool) (nv : Nat) (f : List St1 → List St1) : St1 → Option St1
 | .mk k t ix v c b e =>
  if k = 5 then some (.mk k t ix v c b e) else if k = 1 then (if q t.toNat then some (.mk k t ix v c b e) else none) else if k = 2 then (if q (nv + t.toNat) then some (.mk k t ix v c b e) else none)
  else if 0 < (f b).length + (f e).length then some (.mk k t ix v c (f b) (f e)) else none
def cutL (q : Nat → Bool) (nv : Nat) : Nat → List St1 → List St1
 | 0, _ => []
 | d + 1, l => l.filterMap (cutS q nv (cutL q nv d))
def addS (q : Nat → Bool) (nv : Nat) (f : List St1 → List St1) (g : List St1 → Nat) (a : Nat) : St1 → Nat
 | .mk k t ix v c b e =>
  let a1 := if k = 5 ∨ k = 1 ∨ k = 2 then a else a ||| (g b ||| g e)
  if (cutS q nv f (.mk k t ix v c b e)).isSome then a1 ||| (occN nv 5 v ||| occN nv 5 ix) else a1
def setN (q : Nat → Bool) (nv : Nat) : Nat → List St1 → Nat
 | 0, _ => 0
 | d + 1, l => l.foldl (addS q nv (cutL q nv d) (setN q nv d)) 0
end Go.Proofs.YtpphageokplgoaaGreat.CtD
namespace Go.Proofs.YtpphageokplgoaaGreat.CtD
open Go Go.CT CtF CtR
def subB (a : Nat) (q : Nat → Bool) : Prop := ∀ i, a.testBit i = true → q i = true
theorem subB_or {a b : Nat} {q : Nat → Bool} : subB (a ||| b) q ↔ subB a q ∧ subB b q := by
 unfold subB
 constructor
 ·intro h
  exact ⟨fun i hi => h i (by rw [Nat.testBit_or, hi, Bool.true_or]), fun i hi => h i (by rw [Nat.testBit_or, hi, Bool.or_true])⟩
 ·rintro ⟨h1, h2⟩ i hi
  rw [Nat.testBit_or, Bool.or_eq_true] at hi
  exact hi.elim (h1 i) (h2 i)
theorem subB_zero (q : Nat → Bool) : subB 0 q := fun i h => by simp at h
def leB (q q' : Nat → Bool) : Prop := ∀ i, q i = true → q' i = true
theorem cut_mono (nv : Nat) {q q' : Nat → Bool} (h : leB q q') : ∀ (d : Nat) (l : List St1), (0 < (cutL q nv d l).length → 0 < (cutL q' nv d l).length) ∧ ∀ r, subB (setN q' nv d l) r → subB (setN q nv d l) r := by
 intro d
 induction d with
 | zero => intro l; exact ⟨fun h => h, fun r h => h⟩
 | succ d ih =>
  have hS : ∀ s, (cutS q nv (cutL q nv d) s).isSome = true → (cutS q' nv (cutL q' nv d) s).isSome = true := fun s => by
   obtain ⟨k, t, ix, v, c, b, e⟩ := s
   simp only [cutS]
   by_cases h5 : k = 5
   ·simp [h5]
   ·by_cases h1 : k = 1
    ·simp only [h5, h1, if_false, if_true]
     cases hq : q t.toNat with
     | false => simp
     | true => simp [h _ hq]
    ·by_cases h2 : k = 2
     ·simp only [h5, h1, h2, if_false, if_true]
      cases hq : q (nv + t.toNat) with
      | false => simp
      | true => simp [h _ hq]
     ·simp only [h5, h1, h2, if_false]
      intro hh
      have : 0 < (cutL q nv d b).length + (cutL q nv d e).length := by
       by_cases h0 : 0 < (cutL q nv d b).length + (cutL q nv d e).length
       ·exact h0
       ·rw [if_neg h0] at hh; simp at hh
      have h3 := (ih b).1
      have h4 := (ih e).1
      rw [if_pos (by omega)]; rfl
  have hA : ∀ s r a a', (subB a' r → subB a r) → subB (addS q' nv (cutL q' nv d) (setN q' nv d) a' s) r → subB (addS q nv (cutL q nv d) (setN q nv d) a s) r := fun s r a a' haa => by
   have hss := hS s
   obtain ⟨k, t, ix, v, c, b, e⟩ := s
   simp only [addS]
   have hb := (ih b).2 r
   have he := (ih e).2 r
   have h1 : subB (if k = 5 ∨ k = 1 ∨ k = 2 then a' else a' ||| (setN q' nv d b ||| setN q' nv d e)) r → subB (if k = 5 ∨ k = 1 ∨ k = 2 then a else a ||| (setN q nv d b ||| setN q nv d e)) r := by
    split
    ·exact haa
    ·intro hh
     rw [subB_or, subB_or] at hh ⊢
     exact ⟨haa hh.1, hb hh.2.1, he hh.2.2⟩
   intro hh
   cases hc : (cutS q nv (cutL q nv d) (.mk k t ix v c b e)).isSome with
   | true =>
    rw [hss hc] at hh
    simp only [if_true] at hh ⊢
    rw [subB_or] at hh ⊢
    exact ⟨h1 hh.1, hh.2⟩
   | false =>
    simp only [Bool.false_eq_true, if_false]
    apply h1
    split at hh
    ·exact (subB_or.1 hh).1
    ·exact hh
  intro l
  refine ⟨fun hl => ?_, fun r => ?_⟩
  ·simp only [cutL] at hl ⊢
   obtain ⟨x, hx⟩ := List.exists_mem_of_length_pos hl
   obtain ⟨s, hs, he⟩ := List.mem_filterMap.1 hx
   have := hS s (by rw [he]; rfl)
   obtain ⟨y, hy⟩ := Option.isSome_iff_exists.1 this
   exact List.length_pos_of_mem (List.mem_filterMap.2 ⟨s, hs, hy⟩)
  ·simp only [setN]
   have gen : ∀ (l : List St1) (a a' : Nat), (subB a' r → subB a r) → subB (l.foldl (addS q' nv (cutL q' nv d) (setN q' nv d)) a') r → subB (l.foldl (addS q nv (cutL q nv d) (setN q nv d)) a) r := fun l => by
    induction l with
    | nil => intro a a' h; exact h
    | cons s t iht => intro a a' h; exact iht _ _ (hA s r a a' h)
   exact gen l 0 0 (fun h => h)
structure Least (p : Pg) (ws : List Bool) (q : Nat → Bool) : Prop where
 want : ∀ i, ws.getD i false = true → q i = true
 closed : subB (setN q p.vars.length 5 p.body) q
 least : ∀ q' : Nat → Bool, (∀ i, ws.getD i false = true → q' i = true) → subB (setN q' p.vars.length 5 p.body) q' → leB q q'
theorem Least.eq {p : Pg} {ws : List Bool} {q q' : Nat → Bool} (h : Least p ws q) (h' : Least p ws q') : q = q' := funext fun i => by
 have h1 := h.least q' h'.want h'.closed i
 have h2 := h'.least q h.want h.closed i
 cases ha : q i <;> cases hb : q' i <;> simp_all
end Go.Proofs.YtpphageokplgoaaGreat.CtD
namespace Go.Proofs.YtpphageokplgoaaGreat.CtD
open Go Go.CT CtF CtR
def slP (p : Pg) (q : Nat → Bool) : Pg := ⟨p.vars, p.arrays, cutL q p.vars.length 5 p.body⟩
end Go.Proofs.YtpphageokplgoaaGreat.CtD
namespace Go.Proofs.YtpphageokplgoaaGreat.CtD
open Go Go.CT CtF CtR
def usesL (nv : Nat) : Nat → Ex → List Bool → List Bool
 | 0, _, L => L
 | d + 1, .mk k v ks, L => ks.foldl (fun L x => usesL nv d x L) (if k = 2 then L.set v.toNat true else if k = 3 then L.set (nv + v.toNat) true else L)
theorem usesL_len (nv : Nat) : ∀ (d : Nat) (e : Ex) (L : List Bool), (usesL nv d e L).length = L.length
 | 0, _, L => rfl
 | d + 1, .mk k v ks, L => by
  have gen : ∀ (ks : List Ex) (L : List Bool), (ks.foldl (fun L x => usesL nv d x L) L).length = L.length := fun ks => by
   induction ks with
   | nil => intro L; rfl
   | cons a r ih => intro L; rw [List.foldl_cons, ih, usesL_len nv d a L]
  simp only [usesL]
  rw [gen]
  split
  ·simp
  ·split <;> simp
end Go.Proofs.YtpphageokplgoaaGreat.CtD
namespace Go.Proofs.YtpphageokplgoaaGreat.CtD
open Go Go.CT CtF CtR
def needS (nv : Nat) (f : List St1 → List Bool → Bool × List Bool) (L : List Bool) : St1 → Bool × List Bool
 | .mk k t ix v c b e =>
  let y := if k = 1 then (L.getD t.toNat false, L) else if k = 2 then (L.getD (nv + t.toNat) false, L) else if k = 5 then (true, L) else ((f b L).1 || (f e (f b L).2).1, (f e (f b L).2).2)
  (y.1, if y.1 then usesL nv 5 ix (usesL nv 5 v y.2) else y.2)
def needL (nv : Nat) : Nat → List St1 → List Bool → Bool × List Bool
 | 0, _, L => (false, L)
 | d + 1, l, L => l.foldl (fun x s => (x.1 || (needS nv (needL nv d) x.2 s).1, (needS nv (needL nv d) x.2 s).2)) (false, L)
end Go.Proofs.YtpphageokplgoaaGreat.CtD
namespace Go.Proofs.YtpphageokplgoaaGreat.CtD
open Go Go.CT CtF CtR
end Go.Proofs.YtpphageokplgoaaGreat.CtD
namespace Go.Proofs.YtpphageokplgoaaGreat.CtD
open Go Go.CT CtF CtR
theorem cutL_nil (q : Nat → Bool) (nv d : Nat) : cutL q nv d [] = [] := by cases d <;> simp [cutL]
end Go.Proofs.YtpphageokplgoaaGreat.CtD
