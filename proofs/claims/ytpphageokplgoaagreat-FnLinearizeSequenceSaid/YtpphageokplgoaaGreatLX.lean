/- Contracts of functions of the program, one behind the other, as plain data: what each call returns and which blocks it leaves. -/
import Derived.Test.YtpphageokplgoaaGreatChecked
import Derived.KernelRfl
import Derived.Test.YtpphageokplgoaaGreatLAj
import Derived.Test.YtpphageokplgoaaGreatLFacts
import Derived.Test.YtpphageokplgoaaGreatLAk
import Derived.Test.YtpphageokplgoaaGreatLAo
import Derived.Test.YtpphageokplgoaaGreatLAp
import Derived.Test.YtpphageokplgoaaGreatLAn
import Derived.Test.YtpphageokplgoaaGreatLAr
import Derived.Test.YtpphageokplgoaaGreatLAl
import Derived.Test.YtpphageokplgoaaGreatLAm
import Derived.Test.YtpphageokplgoaaGreatLAs
import Derived.Test.YtpphageokplgoaaGreatLAt
import Derived.Test.YtpphageokplgoaaGreatLAv
import Derived.Test.YtpphageokplgoaaGreatLAw
import Derived.Test.YtpphageokplgoaaGreatLAx
import Derived.Test.YtpphageokplgoaaGreatLAy
import Derived.Test.YtpphageokplgoaaGreatLAz
import Derived.Test.YtpphageokplgoaaGreatLBa
import Derived.Test.YtpphageokplgoaaGreatLBg
set_option linter.unusedVariables false
set_option linter.unusedSimpArgs false
set_option maxHeartbeats 16000000
set_option maxRecDepth 100000
namespace Go.Proofs.YtpphageokplgoaaGreat.CtF
open Go Go.CT
theorem ok5 : fnOK Tryz.prog 5 = true := by kernel_rfl
theorem ok7 : fnOK Tryz.prog 7 = true := by kernel_rfl
theorem ok8 : fnOK Tryz.prog 8 = true := by kernel_rfl
theorem ok9 : fnOK Tryz.prog 9 = true := by kernel_rfl
theorem ok21 : fnOK Tryz.prog 21 = true := by kernel_rfl
theorem ok34 : fnOK Tryz.prog 34 = true := by kernel_rfl
theorem ok35 : fnOK Tryz.prog 35 = true := by kernel_rfl
theorem ok61 : fnOK Tryz.prog 61 = true := by kernel_rfl
theorem ok79 : fnOK Tryz.prog 79 = true := by kernel_rfl
theorem ok135 : fnOK Tryz.prog 135 = true := by kernel_rfl
theorem ok181 : fnOK Tryz.prog 181 = true := by kernel_rfl
theorem ok198 : fnOK Tryz.prog 198 = true := by kernel_rfl
attribute [go_sem] Tryz.f5 Tryz.f7 Tryz.f8 Tryz.f9 Tryz.f21 Tryz.f34 Tryz.f35 Tryz.f61 Tryz.f79 Tryz.f135 Tryz.f181 Tryz.f198
end Go.Proofs.YtpphageokplgoaaGreat.CtF
namespace Go.Proofs.YtpphageokplgoaaGreat.CtR
open Go Go.CT CtF
theorem equalFunc (xs ys : List (List Int)) (hl : xs.length ≤ mx) (hx4 : ∀ a ∈ xs, a.length ≤ mx) : DC Tryz.prog 61 [.c (.isl 1 (xs.map fun a => [isI a])), .c (.isl 1 (ys.map fun a => [isI a])), .c (.clo 54 [])] [] (fun r h => r = DB (decide (xs = ys)) ∧ h = []) := by
 have hmx := mx_eq
 have ret : ∀ (b : Bool) (hp : Hp), b = decide (xs = ys) → RetOb 0 (fun r h => r = DB (decide (xs = ys)) ∧ h = []) (DB b) hp := fun b hp h => RetOb.plain (d := DB _) ⟨by rw [h], rfl⟩ rfl
 by_cases hlen : xs.length = ys.length
 ·have hb : ((xs.length : Int) != ys.length) = false := by simp [hlen]
  have he : ((xs.length : Int) = ys.length) = True := eq_true (by omega)
  refine dc_of_go Tryz.func61 rfl (by simp) ?_
  refine drv_sound (n := 100) (rs := _) Tryz.func61 mo rfl none _ _ ?_
  simp (maxSteps := 9999999) only [go_sem, isI, I64, hb, he]
  refine Go.loopL (fun i : Nat => [(1, .c (.isl 1 (ys.map fun a => [isI a]))), (2, .c (.clo 54 [])), (15, .c (.isl 1 (xs.map fun a => [isI a]))), (16, DI .i64 xs.length), (17, DI .i64 i)]) (fun _ => []) 1024 (fun i => i ≤ xs.length ∧ decide (xs = ys) = decide (xs.drop i = ys.drop i)) (fun i => xs.length - i) ?_ 0 some [] _ ⟨Nat.zero_le _, rfl⟩ ?_
  ·intro i hi again
   refine drv_sound (n := 100) (rs := _) Tryz.func61 mo rfl none _ _ ?_
   rcases Nat.lt_or_ge i xs.length with hlt | hge
   ·obtain ⟨x, hx⟩ : ∃ x, xs[i]? = some x := ⟨xs[i], by simp [hlt]⟩
    obtain ⟨y, hy⟩ : ∃ y, ys[i]? = some y := ⟨ys[i]'(by omega), by simp⟩
    have hI := hi.2
    obtain ⟨_, ex⟩ := List.getElem?_eq_some_iff.1 hx
    obtain ⟨hyl, ey⟩ := List.getElem?_eq_some_iff.1 hy
    rw [List.drop_eq_getElem_cons hlt, List.drop_eq_getElem_cons hyl, ex, ey] at hI
    simp (maxSteps := 9999999) only [go_sem, isI, I64, hx, hy, hlt]
    (repeat' with_reducible apply And.intro) <;> (try first | omega | (simp only [InK]; omega) | (intro k e; cases e; rfl) | (intro hguard; exact ⟨hguard, by simp only [InK]; omega⟩) | kernel_rfl)
    refine XK.plain (equalI x y (hx4 x (List.mem_of_getElem? hx))) ok54 ?_
    refine drv_sound (n := 100) (rs := _) Tryz.func61 mo rfl (some _) _ _ ?_
    simp (maxSteps := 9999999) only [go_sem, isI, I64]
    refine ⟨fun hne => ret _ _ (by rw [hI]; simp [hne]), fun heq => ⟨by simp only [InK]; omega, again (i + 1) some [] _ ⟨by omega, by rw [hI]; simp [heq]⟩ (by omega) (Mt.slots (by
     simp (maxSteps := 9999999) only [go_sem, TmOK, DM, DMs, CM, CMs, forall_eq, exists_eq_left, isI, I64]))⟩⟩
   ·have hn : ¬ i < xs.length := by omega
    simp (maxSteps := 9999999) only [go_sem, isI, I64, hn]
    refine ret _ _ ?_
    rw [hi.2, List.drop_of_length_le hge, List.drop_of_length_le (by omega)]; rfl
  ·refine Mt.slots ?_
   simp (maxSteps := 9999999) only [go_sem, TmOK, DM, DMs, CM, CMs, forall_eq, exists_eq_left, isI, I64]
 ·have hb : ((xs.length : Int) != ys.length) = true := by simp; omega
  have he : ((xs.length : Int) = ys.length) = False := eq_false (by omega)
  refine dc_of_go Tryz.func61 rfl (by simp) ?_
  refine drv_sound (n := 100) (rs := _) Tryz.func61 mo rfl none _ _ ?_
  simp (maxSteps := 9999999) only [go_sem, isI, I64, hb, he]
  refine ret _ _ ?_
  symm; rw [decide_eq_false_iff_not]; intro h; exact hlen (by rw [h])
def memSame (a b : Mm) : Bool := decide (a.vals = b.vals) && decide (a.arrays = b.arrays)
theorem memorySame (a b : Mm) (h1 : a.vals.length ≤ mx) (h2 : a.arrays.length ≤ mx) (h3 : ∀ x ∈ a.arrays, x.length ≤ mx) : DC Tryz.prog 21 [.agg a.cells, .agg b.cells] [] (fun r h => r = DB (memSame a b) ∧ h = []) := by
 obtain ⟨va, arr⟩ := a
 obtain ⟨vb, brr⟩ := b
 refine dc_of_go Tryz.func21 rfl (by simp) ?_
 refine drv_sound (n := 100) (rs := _) Tryz.func21 mo rfl none _ _ ?_
 simp (maxSteps := 9999999) only [go_sem, Mm.cells, isI, I64]
 refine XK.plain (equalI va vb h1) ok54 ?_ (hbT ())
 refine drv_sound (n := 100) (rs := _) Tryz.func21 mo rfl (some _) _ _ ?_
 simp (maxSteps := 9999999) only [go_sem, Mm.cells, isI, I64]
 refine XK.gplain 5 true (decide (va = vb)) (fun _ => equalFunc arr brr h2 h3) ok61 ?_ (hbT ()) (hok := by intro hx; simp [okP, getCall, Call.operands, evT, upd, peelB, DB, DI, cst, one] at hx ⊢; first | done | exact hx | (simp_all; done) | omega)
 refine drv_sound (n := 100) (rs := _) Tryz.func21 mo rfl (some _) _ _ ?_
 simp (maxSteps := 9999999) only [go_sem, Mm.cells, isI, I64]
 exact RetOb.plain (d := DB _) ⟨rfl, rfl⟩ rfl
end Go.Proofs.YtpphageokplgoaaGreat.CtR
namespace Go.Proofs.YtpphageokplgoaaGreat.CtR
open Go Go.CT CtF
theorem memSame_refl (m : Mm) : memSame m m = true := by simp [memSame]
end Go.Proofs.YtpphageokplgoaaGreat.CtR
namespace Go.Proofs.YtpphageokplgoaaGreat.CtR
open Go Go.CT CtF
theorem shape_bd (vs ar : List Int) (b1 b2 : List St1) : ∀ (d : Nat) (e : Ex), shape ⟨vs, ar, b1⟩ d e = shape ⟨vs, ar, b2⟩ d e
 | 0, _ => rfl
 | d + 1, .mk k v ks => by
  have h : shape ⟨vs, ar, b1⟩ d = shape ⟨vs, ar, b2⟩ d := funext (shape_bd vs ar b1 b2 d)
  simp only [shape, h]
  rfl
theorem right_bd (vs ar : List Int) (b1 b2 : List St1) (e : Ex) : right ⟨vs, ar, b1⟩ e = right ⟨vs, ar, b2⟩ e := by simp only [right, shape_bd vs ar b1 b2]
theorem stmtOK_bd (vs ar : List Int) (b1 b2 : List St1) : ∀ (d : Nat) (s : St1), stmtOK ⟨vs, ar, b1⟩ d s = stmtOK ⟨vs, ar, b2⟩ d s
 | 0, _ => rfl
 | d + 1, .mk k t ix v c b e => by
  have h : stmtOK ⟨vs, ar, b1⟩ d = stmtOK ⟨vs, ar, b2⟩ d := funext (stmtOK_bd vs ar b1 b2 d)
  simp only [stmtOK, headOK, right_bd vs ar b1 b2, h]
theorem progOK_sub {vs ar : List Int} {bd b2 : List St1} (h : progOK ⟨vs, ar, bd⟩ = true) (hs : ∀ s ∈ b2, s ∈ bd) (hl : lsize 5 b2 ≤ lsize 5 bd) : progOK ⟨vs, ar, b2⟩ = true := by
 simp only [progOK, Bool.and_eq_true, decide_eq_true_eq, List.all_eq_true] at h ⊢
 exact ⟨⟨h.1.1, fun s hx => by rw [stmtOK_bd vs ar b2 bd]; exact h.1.2 s (hs s hx)⟩, by omega⟩
end Go.Proofs.YtpphageokplgoaaGreat.CtR
namespace Go.Proofs.YtpphageokplgoaaGreat.CtR
open Go Go.CT CtF
def strictR (p : Pg) : Int × Int := if (chkR flowR p).1 ≠ 0 then chkR flowR p else chkR leakR p
end Go.Proofs.YtpphageokplgoaaGreat.CtR
namespace Go.Proofs.YtpphageokplgoaaGreat.CtR
open Go Go.CT CtF
theorem or_bit {β : Nat} : ∀ (l : List Nat) (a : Nat), (l.foldl (fun a b => a ||| b) a).testBit β = false ↔ a.testBit β = false ∧ ∀ x ∈ l, x.testBit β = false
 | [], a => by simp
 | b :: r, a => by rw [List.foldl_cons, or_bit r, Nat.testBit_or]; simp [and_assoc]
theorem nth_get {l : List Int} {v : Int} (h : 0 ≤ v) (h2 : v < l.length) : l[v.toNat]? = some (nth l v) := (nth_mem h h2).1
theorem nth_eq {l l' : List Int} {v : Int} (h : l[v.toNat]? = l'[v.toNat]?) : nth l v = nth l' v := by
 unfold nth; rw [List.getD_eq_getElem?_getD, List.getD_eq_getElem?_getD, h]
theorem evalE_low {β : Nat} {p : Pg} {m m' : Mm} (h : LowM β p m m') : ∀ (d : Nat) (e : Ex), shape p d e = true → (labN p.vars p.arrays d e).testBit β = false → evalE m d e = evalE m' d e
 | 0, _, _, _ => rfl
 | d + 1, .mk k v ks, hs, hb => by
  obtain ⟨g1, g2, g3⟩ := shape_succ hs
  obtain ⟨_, _, hv0, hv1⟩ := fits_len g1
  simp only [labN, or_bit, List.mem_map] at hb
  have hk : ∀ e ∈ ks, evalE m d e = evalE m' d e := fun e he => evalE_low h d e (g2 e he) (hb.2 _ ⟨e, he, rfl⟩)
  have hxs : (ks.map fun e => (evalE m d e).1) = ks.map fun e => (evalE m' d e).1 := List.map_congr_left fun e he => by rw [hk e he]
  have hev : (ks.map fun e => (evalE m d e).2) = ks.map fun e => (evalE m' d e).2 := List.map_congr_left fun e he => by rw [hk e he]
  simp only [evalE, hxs, hev]
  by_cases k2 : k = 2
  ·subst k2
   have hx := nth_get (l := p.vars) hv0 (by simpa [limit] using hv1)
   have := nth_eq (h.val _ _ hx (by have := hb.1; simpa [labB] using this))
   simp [this]
  ·by_cases k3 : k = 3
   ·subst k3
    have hx := nth_get (l := p.arrays) hv0 (by simpa [limit] using hv1)
    have := arrAt_eq (h.arr _ _ hx (by have := hb.1; simpa [labB] using this))
    simp [this]
   ·simp [k2, k3]
theorem flow_assign {vs ar : List Int} {s : St1} {c : Nat} (h : flowR vs ar s c = 0) (hk : s.kind = 1) : subL (storedN vs ar s c) (nth vs s.target).toNat = true := by
 unfold flowR at h
 rw [if_pos hk] at h
 cases hs : subL (storedN vs ar s c) (nth vs s.target).toNat with
 | true => rfl
 | false => rw [hs] at h; simp at h
theorem flow_store {vs ar : List Int} {s : St1} {c : Nat} (h : flowR vs ar s c = 0) (hk : s.kind = 2) : subL (storedN vs ar s c) (nth ar s.target).toNat = true := by
 unfold flowR at h
 rw [if_neg (by omega), if_pos hk] at h
 cases hs : subL (storedN vs ar s c) (nth ar s.target).toNat with
 | true => rfl
 | false => rw [hs] at h; simp at h
theorem stored_v {β : Nat} {vs ar : List Int} {s : St1} {c : Nat} (h : (labN vs ar 5 s.value).testBit β = true) : (storedN vs ar s c).testBit β = true := by
 unfold storedN; split <;> simp [Nat.testBit_or, h]
end Go.Proofs.YtpphageokplgoaaGreat.CtR
namespace Go.Proofs.YtpphageokplgoaaGreat.CtR
open Go Go.CT CtF
theorem secE_ev {p : Pg} {m m' : Mm} (h : LowM 0 p m m') : ∀ (d : Nat) (e : Ex), shape p d e = true → secE p.vars p.arrays d e = false → (evalE m d e).2 = (evalE m' d e).2
 | 0, _, _, _ => rfl
 | d + 1, .mk k v ks, hs, hb => by
  obtain ⟨g1, g2, g3⟩ := shape_succ hs
  obtain ⟨_, hla, hv0, hv1⟩ := fits_len g1
  simp only [secE, Bool.or_eq_false_iff, List.any_eq_false, Bool.not_eq_true] at hb
  have hev : (ks.map fun e => (evalE m d e).2) = ks.map fun e => (evalE m' d e).2 := List.map_congr_left fun e he => secE_ev h d e (g2 e he) (hb.2 e he)
  simp only [evalE, hev]
  by_cases k3 : k = 3
  ·subst k3
   have h0 : (ks.map fun e => (evalE m d e).1).getD 0 0 = (ks.map fun e => (evalE m' d e).1).getD 0 0 := by
    cases ks with
    | nil => rfl
    | cons a r =>
     have := hb.1
     simp only [beq_self_eq_true, Bool.true_and, kid0, secL] at this
     simp [evalE_low h d a (g2 a (by simp)) this]
   simp only [h0]
   simp
  ·by_cases k1 : k = 1
   ·simp [k1]
   ·by_cases k2 : k = 2
    ·simp [k2]
    ·by_cases k11 : k = 11
     ·simp [k11]
     ·simp [k1, k2, k3, k11]
theorem foldR_res {p : Pg} {f : Mm → St1 → Mm × List Ev} : ∀ (l : List St1) (m m' : Mm), LowM 0 p m m' → (∀ s ∈ l, ∀ m m', LowM 0 p m m' → ResT p (f m s) (f m' s)) → ResT p (foldR f m l) (foldR f m' l)
 | [], _, _, h, _ => .inl ⟨h, rfl⟩
 | s :: r, m, m', h, hf => by
  simp only [foldR]
  exact (hf s (by simp) m m' h).seq fun h => foldR_res r _ _ h fun t ht => hf t (by simp [ht])
theorem iterR_res {p : Pg} {f : Mm → Mm × List Ev} (hf : ∀ m m', LowM 0 p m m' → ResT p (f m) (f m')) : ∀ (n : Nat) (m m' : Mm), LowM 0 p m m' → ResT p (iterR f n m) (iterR f n m')
 | 0, _, _, h => .inl ⟨h, rfl⟩
 | n + 1, m, m', h => by
  simp only [iterR]
  exact (iterR_res hf n m m' h).seq fun h => hf _ _ h
theorem leak_spec {vs ar : List Int} {s : St1} {c : Nat} (h : leakR vs ar s c = 0) : (s.kind = 3 → secL (labN vs ar 5 s.value) = false) ∧ (s.kind = 2 → secL (labN vs ar 5 s.index) = false) ∧ secE vs ar 5 s.value = false := by
 unfold leakR at h
 by_cases h1 : s.kind = 3 ∧ secL (labN vs ar 5 s.value) = true
 ·rw [if_pos h1] at h; omega
 ·rw [if_neg h1] at h
  by_cases h2 : (s.kind = 2 ∧ secL (labN vs ar 5 s.index) = true) ∨ secE vs ar 5 s.value = true
  ·rw [if_pos h2] at h; omega
  ·simp only [not_or, not_and, Bool.not_eq_true] at h1 h2
   exact ⟨h1, h2.1, h2.2⟩
theorem run_ct {p : Pg} : ∀ (d c : Nat) (l : List St1), (∀ s ∈ l, stmtOK p d s = true) → fineL (flowR p.vars p.arrays) p.vars p.arrays d c l = true → fineL (leakR p.vars p.arrays) p.vars p.arrays d c l = true →
 ∀ m m', LowM 0 p m m' → ResT p (foldR (runS d) m l) (foldR (runS d) m' l)
 | 0, c, l, _, _, _, m, m', h => foldR_res l m m' h fun s _ m m' h => .inl ⟨h, rfl⟩
 | d + 1, c, l, hok, hf, hk, m, m', h => by
  refine foldR_res l m m' h fun s hs m m' h => ?_
  simp only [fineL, List.all_eq_true, Bool.and_eq_true, beq_iff_eq, bne_iff_ne] at hf hk
  obtain ⟨⟨f1, f2⟩, f3⟩ := hf s hs
  obtain ⟨⟨g1, g2⟩, g3⟩ := hk s hs
  have hso := hok s hs
  have h1 := fun hk => flow_assign f1 hk
  have h2 := fun hk => flow_store f1 hk
  obtain ⟨g3', g4⟩ := leak_spec g1
  have hsv := fun h => stored_v (β := 0) (vs := p.vars) (ar := p.arrays) (s := s) (c := c) h
  generalize storedN p.vars p.arrays s c = sto at *
  obtain ⟨k, t, ix, v, cc, b, e⟩ := s
  have hbo := stmtOK_succ hso
  obtain ⟨s1, s2⟩ := shapeV hso
  have hb := fun m m' h => run_ct d _ b hbo.2.1 f2 g2 m m' h
  have he := fun m m' h => run_ct d _ e hbo.2.2 f3 g3 m m' h
  simp only [St1.kind, St1.target, St1.body, St1.els, St1.value, St1.index] at h1 h2 f2 f3 g2 g3 hsv g3' g4
  by_cases k4 : k = 4
  ·subst k4; rw [runS_4, runS_4]; exact iterR_res (fun m m' h => hb m m' h) _ m m' h
  have hv := fun hb => evalE_low (β := 0) h 5 v (s1 k4) hb
  have hev := secE_ev h 5 v (s1 k4) g4.2
  by_cases k1 : k = 1
  ·subst k1; rw [runS_1, runS_1]
   refine .inl ⟨h.setV ?_, hev⟩
   cases hl : (labN p.vars p.arrays 5 v).testBit 0 with
   | false => exact .inl (by rw [hv hl])
   | true => exact .inr (subL_bit (h1 rfl) (hsv hl))
  by_cases k5 : k = 5
  ·subst k5; rw [runS_5, runS_5]
   by_cases hvv : (evalE m 5 v).1 = (evalE m' 5 v).1
   ·exact .inl ⟨h.setV (.inl hvv), by simp only [hev, hvv]⟩
   ·exact .inr ⟨(evalE m' 5 v).2, (evalE m 5 v).1, (evalE m' 5 v).1, [], [], hvv, by simp only [hev], rfl⟩
  by_cases k2 : k = 2
  ·subst k2; rw [runS_2, runS_2]
   have hi := evalE_low (β := 0) h 5 ix (s2 rfl) (g4.1 rfl)
   refine .inl ⟨h.setA ?_, by simp only [hev, hi]⟩
   cases hl : (labN p.vars p.arrays 5 v).testBit 0 with
   | true => exact .inr (subL_bit (h2 rfl) (hsv hl))
   | false => exact .inl ⟨by rw [hi], by rw [hv hl]⟩
  have k3 : k = 3 := by
   have := head_kind hbo.1
   omega
  have hi := fun m => runS_if (d := d) (m := m) (t := t) (ix := ix) (v := v) (c := cc) (b := b) (e := e) k4 k1 k5 k2
  subst k3
  have hvv := hv (g3' rfl)
  have hpre : ResT p (m, (evalE m 5 v).2) (m', (evalE m' 5 v).2) := .inl ⟨h, hev⟩
  by_cases hz : (evalE m 5 v).1 = 0
  ·rw [(hi m).2 hz, (hi m').2 (by rw [← hvv]; exact hz)]
   have := hpre.seq (y := (m, [⟨1, 0⟩])) (y' := (m', [⟨1, 0⟩])) fun h => .inl ⟨h, rfl⟩
   exact this.seq fun h => he m m' h
  ·rw [(hi m).1 hz, (hi m').1 (by rw [← hvv]; exact hz)]
   have := hpre.seq (y := (m, [⟨1, 1⟩])) (y' := (m', [⟨1, 1⟩])) fun h => .inl ⟨h, rfl⟩
   exact this.seq fun h => hb m m' h
theorem eval_ev4 (m : Mm) : ∀ (d : Nat) (e : Ex), ∀ x ∈ (evalE m d e).2, x.kind ≠ 4
 | 0, _, x, hx => by simp [evalE] at hx
 | d + 1, .mk k v ks, x, hx => by
  have hf : ∀ x ∈ (ks.map fun e => (evalE m d e).2).flatten, x.kind ≠ 4 := fun x hx => by
   obtain ⟨l, hl, hx⟩ := List.mem_flatten.1 hx
   obtain ⟨e, _, rfl⟩ := List.mem_map.1 hl
   exact eval_ev4 m d e x hx
  simp only [evalE] at hx
  split at hx
  ·simp at hx
  ·split at hx
   ·simp at hx
   ·split at hx
    ·rcases List.mem_append.1 hx with h | h
     ·exact hf x h
     ·rw [List.mem_singleton.1 h]; simp
    ·split at hx
     ·exact hf x hx
     ·exact hf x hx
theorem foldR_evs {f : Mm → St1 → Mm × List Ev} {Q : Ev → Prop} : ∀ (l : List St1) (m : Mm), (∀ s ∈ l, ∀ m, ∀ x ∈ (f m s).2, Q x) → ∀ x ∈ (foldR f m l).2, Q x
 | [], _, _, x, hx => by simp [foldR] at hx
 | s :: r, m, hf, x, hx => by
  simp only [foldR] at hx
  rcases List.mem_append.1 hx with h | h
  ·exact hf s (by simp) m x h
  ·exact foldR_evs r _ (fun t ht => hf t (by simp [ht])) x h
theorem iterR_evs {f : Mm → Mm × List Ev} {Q : Ev → Prop} (hf : ∀ m, ∀ x ∈ (f m).2, Q x) : ∀ (n : Nat) (m : Mm), ∀ x ∈ (iterR f n m).2, Q x
 | 0, _, x, hx => by simp [iterR] at hx
 | n + 1, m, x, hx => by
  simp only [iterR] at hx
  rcases List.mem_append.1 hx with h | h
  ·exact iterR_evs hf n m x h
  ·exact hf _ x h
theorem free_ev : ∀ (d : Nat) (l : List St1), freeL d l = true → ∀ m, ∀ x ∈ (foldR (runS d) m l).2, x.kind ≠ 4
 | 0, l, _, m => foldR_evs l m fun s _ m x hx => by simp [runS] at hx
 | d + 1, l, hr, m => by
  refine foldR_evs l m fun s hs m => ?_
  simp only [freeL, List.all_eq_true, Bool.and_eq_true, bne_iff_ne] at hr
  obtain ⟨⟨r1, r2⟩, r3⟩ := hr s hs
  obtain ⟨k, t, ix, v, cc, b, e⟩ := s
  simp only [St1.kind] at r1
  have hb := fun m => free_ev d b r2 m
  have he := fun m => free_ev d e r3 m
  have hv := eval_ev4 m 5 v
  by_cases k4 : k = 4
  ·subst k4; rw [runS_4]; exact iterR_evs (fun m => hb m) _ m
  by_cases k1 : k = 1
  ·subst k1; rw [runS_1]; exact hv
  by_cases k2 : k = 2
  ·subst k2; rw [runS_2]
   intro x hx
   rcases List.mem_append.1 hx with h | h
   ·exact hv x h
   ·rw [List.mem_singleton.1 h]; simp
  have hi := runS_if (d := d) (m := m) (t := t) (ix := ix) (v := v) (c := cc) (b := b) (e := e) k4 k1 r1 k2
  by_cases hz : (evalE m 5 v).1 = 0
  ·rw [hi.2 hz]
   intro x hx
   rcases List.mem_append.1 hx with h | h
   ·rcases List.mem_append.1 h with h | h
    ·exact hv x h
    ·rw [List.mem_singleton.1 h]; simp
   ·exact he m x h
  ·rw [hi.1 hz]
   intro x hx
   rcases List.mem_append.1 hx with h | h
   ·rcases List.mem_append.1 h with h | h
    ·exact hv x h
    ·rw [List.mem_singleton.1 h]; simp
   ·exact hb m x h
end Go.Proofs.YtpphageokplgoaaGreat.CtR
namespace Go.Proofs.YtpphageokplgoaaGreat.CtR
open Go Go.CT CtF
theorem RetOb.mem0 {R : D → List (Option (List C)) → Prop} {m : Mm} {hp : Hp} {k0 k1 k2 k3 nv na : Nat} (hna : m.arrays.length ≤ 2) (h4 : ∀ a ∈ m.arrays, a.length = 4) (hR : R (.agg m.cells) [])
 (h0 : hp k0 = some (some (m.vals.map I64))) (h1 : hp k1 = some (some (hdr k2 k3 m.arrays.length))) (h2 : hp k2 = some (some (blk0 m.arrays))) (h3 : hp k3 = some (some (blk1 m.arrays))) (hv : nv = m.vals.length) (hn : na = m.arrays.length)
 (hne : k0 ≠ k1 ∧ k0 ≠ k2 ∧ k0 ≠ k3 ∧ k1 ≠ k2 ∧ k1 ≠ k3 ∧ k2 ≠ k3) : RetOb 0 R (.agg [.msl k0 1 0 nv, .msl k1 1 0 na]) hp := by
 subst hv hn
 obtain ⟨va, arr⟩ := m
 obtain ⟨n01, n02, n03, n12, n13, n23⟩ := hne
 refine RetOb.step (fun j => if j = 0 then some k0 else if j = 1 then some k1 else none) [k2, k3] (.agg [.msl 0 1 0 va.length, .msl 1 1 0 arr.length]) [(0, some (va.map I64)), (1, some (arr.map isI))] ?_ ?_
 ·have e3 : ∀ a : List Int, (a.map fun n => [C.v (.int .i64 n)]).flatten = a.map I64 := fun a => flat1 _ a
  match arr, hna, h4, h1, h2, h3 with
  | [], _, h4, h1, h2, h3 => simp [DM, DMs, CM, CMs, HpOK, LowOK, hOf, upd, h0, CMs_I, h1, hdr, n01, n02, n03, n12, n13, n23, Ne.symm n01, Ne.symm n23]
  | [a], _, h4, h1, h2, h3 =>
   have ha := h4 a (by simp)
   simp [DM, DMs, CM, CMs, HpOK, LowOK, hOf, upd, h0, CMs_I, h1, h2, hdr, n01, n02, n03, n12, n13, n23, Ne.symm n01, Ne.symm n23, e3, isI, ha, blk0, kf]
  | [a, b], _, h4, h1, h2, h3 =>
   have ha := h4 a (by simp)
   have hb := h4 b (by simp)
   simp [DM, DMs, CM, CMs, HpOK, LowOK, hOf, upd, h0, CMs_I, h1, h2, h3, hdr, n01, n02, n03, n12, n13, n23, Ne.symm n01, Ne.symm n23, e3, isI, ha, hb, blk0, blk1, kf]
 ·refine RetOb.ofQ (fun _ => none) [0, 1] _ [] ⟨?_, trivial, trivial, by simp [enumL]⟩ hR (Nat.zero_le _)
  simp [DM, DMs, CM, CMs, hOf, upd, Mm.cells, isI, flat_I, kf]
  exact (flat1 isI arr).symm
end Go.Proofs.YtpphageokplgoaaGreat.CtR
namespace Go.Proofs.YtpphageokplgoaaGreat.CtR
open Go Go.CT CtF
def idxE (q : Ex → Bool) : List Ex → Int → Int
 | [], _ => -1
 | x :: r, i => if q x then i else idxE q r (i + 1)
theorem idxE_any (q : Ex → Bool) : ∀ (xs : List Ex) (i : Int), 0 ≤ i → decide (0 ≤ idxE q xs i) = xs.any q
 | [], i, _ => by simp [idxE]
 | x :: r, i, h => by
  unfold idxE
  by_cases hq : q x = true
  ·simp [hq, h]
  ·simp only [hq, Bool.false_eq_true, if_false, List.any_cons, Bool.not_eq_true] at *
   rw [idxE_any q r (i + 1) (by omega)]; simp [hq]
theorem indexFuncE (g : Nat) (q : Ex → Bool) (p : Pg) (xs : List Ex) (hl : xs.length ≤ 3) (hok : fnOK Tryz.prog g = true) (hg : ∀ e ∈ xs, DC Tryz.prog g [.agg p.cells, .agg e.cells] [] (fun d h => d = DB (q e) ∧ h = [])) :
 DC Tryz.prog 198 [.c (.isl 3 (Ex.cellsL xs)), .c (.met g p.cells)] [] (fun d h => d = DI .i64 (idxE q xs 0) ∧ h = []) := by
 have hmx := mx_eq
 have ret : ∀ (n : Int) (hp : Hp), n = idxE q xs 0 → RetOb 0 (fun d h => d = DI .i64 (idxE q xs 0) ∧ h = []) (DI .i64 n) hp := fun n hp h => RetOb.plain (d := DI .i64 _) ⟨by rw [h], rfl⟩ rfl
 generalize hR : (fun (d : D) (h : List (Option (List C))) => d = DI .i64 (idxE q xs 0) ∧ h = []) = R at ret ⊢
 clear hR
 obtain ⟨vs, ar, bd⟩ := p
 refine dcZ Tryz.func198 ?_
 simp (maxSteps := 9999999) only [go_sem]
 ((try (refine drvZ Tryz.func198 ?_; simp (maxSteps := 9999999) only [go_sem])); (try ((with_reducible refine And.intro ?_ ?_) <;> (repeat' with_reducible apply And.intro) <;> try exact sd)))
 refine Go.loopQ (fun i : Nat => [(0, .c (.isl 3 (Ex.cellsL xs))), (1, .c (.met g (Pg.cells ⟨vs, ar, bd⟩))), (7, DI .i64 xs.length), (8, DI .i64 i)]) (fun _ => []) 1024 (fun i => i ≤ xs.length ∧ idxE q (xs.drop i) i = idxE q xs 0) (fun i => xs.length - i) ?_ 0 some [] _ ⟨Nat.zero_le _, rfl⟩ ?_
 ·intro i hi again
  rcases Nat.lt_or_ge i xs.length with hlt | hge
  ·obtain ⟨⟨k, v, ks⟩, hx⟩ : ∃ x, xs[i]? = some x := ⟨xs[i], by simp [hlt]⟩
   have hgx := hg _ (List.mem_of_getElem? hx)
   have hdrop : xs.drop i = .mk k v ks :: xs.drop (i + 1) := by
    obtain ⟨_, e⟩ := List.getElem?_eq_some_iff.1 hx
    rw [List.drop_eq_getElem_cons hlt, e]
   have hI := hi.2
   rw [hdrop] at hI
   simp only [idxE] at hI
   cases hq : q (.mk k v ks) with
   | true =>
    rw [hq] at hgx hI
    refine drvL Tryz.func198 ?_
    simp (maxSteps := 9999999) only [go_sem, hx, hlt]
    iterate 3 ((try (refine drvZ Tryz.func198 ?_; simp (maxSteps := 9999999) only [go_sem, hx, hlt])); (try ((with_reducible refine And.intro ?_ ?_) <;> (repeat' with_reducible apply And.intro) <;> try exact sd)); (try first | refine XK.p hgx hok ?_ | refine XK.gp hgx hok ?_))
    exact ret _ _ (by simpa using hI)
   | false =>
    rw [hq] at hgx hI
    refine drvL Tryz.func198 ?_
    simp (maxSteps := 9999999) only [go_sem, hx, hlt]
    iterate 4 ((try (refine drvZ Tryz.func198 ?_; simp (maxSteps := 9999999) only [go_sem, hx, hlt])); (try ((with_reducible refine And.intro ?_ ?_) <;> (repeat' with_reducible apply And.intro) <;> try exact sd)); (try first | refine XK.p hgx hok ?_ | refine XK.gp hgx hok ?_))
    refine again (i + 1) some [] _ ⟨hlt, by simpa using hI⟩ (by omega) ?_
    simp (maxSteps := 9999999) only [go_sem, TmOK, DM, DMs, CM, CMs, forall_eq, exists_eq_left, Mq, HpOK, LowOK]
    try simp
  ·have hn : ¬ i < xs.length := by omega
   refine drvL Tryz.func198 ?_
   simp (maxSteps := 9999999) only [go_sem, hn]
   iterate 3 ((try (refine drvZ Tryz.func198 ?_; simp (maxSteps := 9999999) only [go_sem, hn])); (try ((with_reducible refine And.intro ?_ ?_) <;> (repeat' with_reducible apply And.intro) <;> try exact sd)))
   refine ret _ _ ?_
   rw [← hi.2, List.drop_of_length_le hge]; rfl
 ·simp (maxSteps := 9999999) only [go_sem, TmOK, DM, DMs, CM, CMs, forall_eq, exists_eq_left, Mq, HpOK, LowOK]
  try simp
theorem containsFuncE (g : Nat) (q : Ex → Bool) (p : Pg) (xs : List Ex) (hl : xs.length ≤ 3) (hok : fnOK Tryz.prog g = true) (hg : ∀ e ∈ xs, DC Tryz.prog g [.agg p.cells, .agg e.cells] [] (fun d h => d = DB (q e) ∧ h = [])) :
 DC Tryz.prog 181 [.c (.isl 3 (Ex.cellsL xs)), .c (.met g p.cells)] [] (fun d h => d = DB (xs.any q) ∧ h = []) := by
 have hif := indexFuncE g q p xs hl hok hg
 have hia := idxE_any q xs 0 (by omega)
 rw [← hia]
 generalize idxE q xs 0 = n at *
 obtain ⟨vs, ar, bd⟩ := p
 refine dcZ Tryz.func181 ?_
 simp (maxSteps := 9999999) only [go_sem]
 iterate 3 ((try (refine drvZ Tryz.func181 ?_; simp (maxSteps := 9999999) only [go_sem])); (try ((with_reducible refine And.intro ?_ ?_) <;> (repeat' with_reducible apply And.intro) <;> try exact sd)); (try first | refine XK.p hif ok198 ?_ | refine XK.gp hif ok198 ?_))
 exact RetOb.plain (d := DB _) ⟨rfl, rfl⟩ rfl
theorem secretReadI (p : Pg) (hl : p.vars.length ≤ mx) (hl2 : p.arrays.length ≤ mx) (h1 : lab3 p.vars) (h2 : lab3 p.arrays) : ∀ (d : Nat) (e : Ex), shape p d e = true →
 DC Tryz.prog 135 [.agg p.cells, .agg e.cells] [] (fun r h => r = DB (secE p.vars p.arrays d e) ∧ h = []) := by
 have hmx := mx_eq
 intro d
 induction d with
 | zero => intro e h; simp [shape] at h
 | succ d ih =>
  intro e hsh
  obtain ⟨k, v, ks⟩ := e
  obtain ⟨g1, g2, g3⟩ := shape_succ hsh
  obtain ⟨hl3, hla, hv0, hv1⟩ := fits_len g1
  have hcf := containsFuncE 135 (secE p.vars p.arrays d) p ks hl3 ok135 (fun e he => ih e (g2 e he))
  have hlb := labelI p hl hl2 h1 h2 d
  have hle := labN_le h1 h2 d
  have ret : ∀ (b : Bool) (hp : Hp), b = secE p.vars p.arrays (d + 1) (.mk k v ks) → RetOb 0 (fun r h => r = DB (secE p.vars p.arrays (d + 1) (.mk k v ks)) ∧ h = []) (DB b) hp := fun b hp h => RetOb.plain (d := DB _) ⟨by rw [h], rfl⟩ rfl
  generalize hR : (fun (r : D) (h : List (Option (List C))) => r = DB (secE p.vars p.arrays (d + 1) (.mk k v ks)) ∧ h = []) = R at ret ⊢
  clear hR
  simp only [secE] at ret
  generalize hany : ks.any (secE p.vars p.arrays d) = an at *
  obtain ⟨vs, ar, bd⟩ := p
  by_cases hk : k = 3
  ·subst hk
   have h1' : ks.length = 1 := by simp [arity] at hla; omega
   match ks, h1' with
   | [a], _ =>
    have hlv := hlb a (g2 a (by simp))
    have hlvl := hle a
    simp only [kid0, beq_self_eq_true, Bool.true_and] at ret
    generalize labN vs ar d a = lv at *
    have hse := labelSecretI lv hlvl
    generalize secL lv = s at *
    obtain ⟨ak, av, aks⟩ := a
    simp only [Ex.cellsL, List.length_cons, List.length_nil] at hcf
    cases s with
    | true =>
     refine dcZ Tryz.func135 ?_
     simp (maxSteps := 9999999) only [go_sem, Ex.cellsL]
     iterate 6 ((try (refine drvZ Tryz.func135 ?_; simp (maxSteps := 9999999) only [go_sem, Ex.cellsL, beq_self_eq_true])); (try ((with_reducible refine And.intro ?_ ?_) <;> (repeat' with_reducible apply And.intro) <;> try exact sd)); (try first | refine XK.p hlv ok115 ?_ | refine XK.gp hlv ok115 ?_ | refine XK.p hse ok134 ?_ | refine XK.gp hse ok134 ?_ | refine XK.gs (DB false) ?_))
     exact ret _ _ (by simp)
    | false =>
     refine dcZ Tryz.func135 ?_
     simp (maxSteps := 9999999) only [go_sem, Ex.cellsL]
     iterate 6 ((try (refine drvZ Tryz.func135 ?_; simp (maxSteps := 9999999) only [go_sem, Ex.cellsL, beq_self_eq_true])); (try ((with_reducible refine And.intro ?_ ?_) <;> (repeat' with_reducible apply And.intro) <;> try exact sd)); (try first | refine XK.p hlv ok115 ?_ | refine XK.gp hlv ok115 ?_ | refine XK.p hse ok134 ?_ | refine XK.gp hse ok134 ?_ | refine XK.p hcf ok181 ?_ | refine XK.gp hcf ok181 ?_))
     exact ret _ _ (by simp)
  ·have ek : (k == 3) = false := by simp [hk]
   have fk : (k = 3) = False := eq_false hk
   rw [ek] at ret
   cases ks with
   | nil =>
    refine dcZ Tryz.func135 ?_
    simp (maxSteps := 9999999) only [go_sem, Ex.cellsL, ek, fk]
    iterate 6 ((try (refine drvZ Tryz.func135 ?_; simp (maxSteps := 9999999) only [go_sem, Ex.cellsL, ek, fk])); (try ((with_reducible refine And.intro ?_ ?_) <;> (repeat' with_reducible apply And.intro) <;> try exact sd)); (try first | refine XK.p hcf ok181 ?_ | refine XK.gp hcf ok181 ?_ | refine XK.gs (DB false) ?_ | refine XK.gs (DI .i64 0) ?_))
    exact ret _ _ (by simp)
   | cons a r =>
    obtain ⟨ak, av, aks⟩ := a
    refine dcZ Tryz.func135 ?_
    simp (maxSteps := 9999999) only [go_sem, Ex.cellsL, ek, fk]
    iterate 6 ((try (refine drvZ Tryz.func135 ?_; simp (maxSteps := 9999999) only [go_sem, Ex.cellsL, ek, fk])); (try ((with_reducible refine And.intro ?_ ?_) <;> (repeat' with_reducible apply And.intro) <;> try exact sd)); (try first | refine XK.p hcf ok181 ?_ | refine XK.gp hcf ok181 ?_ | refine XK.gs (DB false) ?_ | refine XK.gs (DI .i64 0) ?_))
    exact ret _ _ (by simp)
end Go.Proofs.YtpphageokplgoaaGreat.CtR
namespace Go.Proofs.YtpphageokplgoaaGreat.CtR
open Go Go.CT CtF
theorem secretRead0 (p : Pg) : DC Tryz.prog 135 [.agg p.cells, .agg (Ex.cells (.mk 0 0 []))] [] (fun r h => r = DB false ∧ h = []) := by
 have hmx := mx_eq
 have hcf := containsFuncE 135 (fun _ => false) p [] (by simp) ok135 (fun e he => by simp at he)
 simp only [List.any_nil, Ex.cellsL] at hcf
 have ret : ∀ (hp : Hp), RetOb 0 (fun r h => r = DB false ∧ h = []) (DB false) hp := fun hp => RetOb.plain (d := DB _) ⟨rfl, rfl⟩ rfl
 generalize hR : (fun (r : D) (h : List (Option (List C))) => r = DB false ∧ h = []) = R at ret ⊢
 clear hR
 obtain ⟨vs, ar, bd⟩ := p
 have ek : ((0 : Int) == 3) = false := by decide
 have fk : ((0 : Int) = 3) = False := by simp
 refine dcZ Tryz.func135 ?_
 simp (maxSteps := 9999999) only [go_sem, Ex.cellsL, ek, fk]
 iterate 6 ((try (refine drvZ Tryz.func135 ?_; simp (maxSteps := 9999999) only [go_sem, Ex.cellsL, ek, fk])); (try ((with_reducible refine And.intro ?_ ?_) <;> (repeat' with_reducible apply And.intro) <;> try exact sd)); (try first | refine XK.p hcf ok181 ?_ | refine XK.gp hcf ok181 ?_ | refine XK.gs (DB false) ?_ | refine XK.gs (DI .i64 0) ?_))
 exact ret _
theorem leakI (p : Pg) (hl : p.vars.length ≤ mx) (hl2 : p.arrays.length ≤ mx) (h1 : lab3 p.vars) (h2 : lab3 p.arrays) (d : Nat) (s : St1) (hs : stmtOK p (d + 1) s = true) (c : Nat) :
 DC Tryz.prog 79 [.agg p.cells, .agg s.cells, DI .i64 c] [] (fun r h => r = DI .i64 (leakR p.vars p.arrays s c) ∧ h = []) := by
 have hmx := mx_eq
 have hlab := labelI p hl hl2 h1 h2 5
 have hsec := secretReadI p hl hl2 h1 h2 5
 have hs0 := secretRead0 p
 have hle := labN_le h1 h2 5
 obtain ⟨vs, ar, bd⟩ := p
 have ret : ∀ (n : Int) (hp : Hp), n = leakR vs ar s c → RetOb 0 (fun r h => r = DI .i64 (leakR vs ar s c) ∧ h = []) (DI .i64 n) hp := fun n hp h => RetOb.plain (d := DI .i64 _) ⟨by rw [h], rfl⟩ rfl
 simp only at ret hle ⊢
 generalize hR : (fun (r : D) (h : List (Option (List C))) => r = DI .i64 (leakR vs ar s c) ∧ h = []) = R at ret ⊢
 clear hR
 obtain ⟨k, t, ⟨ik, iv, iks⟩, ⟨vk, vv, vks⟩, cc, b, e⟩ := s
 have hho := (stmtOK_succ hs).1
 have hh := head_kind hho
 obtain ⟨sv, si⟩ := shapeV hs
 have hkey : k = 4 ∨ k = 3 ∨ k = 2 ∨ (k = 1 ∨ k = 5) := by omega
 rcases hkey with hk | hk | hk | hk
 ·subst hk
  have hz : vk = 0 ∧ vv = 0 ∧ vks = [] := by
   unfold headOK parts at hho
   simp [none0, Ex.kind, Ex.value, Ex.kids] at hho
   grind
  obtain ⟨rfl, rfl, rfl⟩ := hz
  simp only [Ex.cells, Ex.cellsL] at hs0
  refine dcZ Tryz.func79 ?_
  simp (maxSteps := 9999999) only [go_sem, Ex.cellsL]
  iterate 10 ((try (refine drvZ Tryz.func79 ?_; simp (maxSteps := 9999999) only [go_sem, Ex.cellsL])); (try ((with_reducible refine And.intro ?_ ?_) <;> (repeat' with_reducible apply And.intro) <;> try exact sd)); (try first | refine XK.p hs0 ok135 ?_ | refine XK.gp hs0 ok135 ?_ | refine XK.gs (DB false) ?_ | refine XK.gs (DI .i64 0) ?_))
  exact ret _ _ (by simp [leakR, St1.kind, St1.value, St1.index, secE])
 ·subst hk
  have hlv := hlab _ (sv (by decide))
  have hlvl := hle (.mk vk vv vks)
  have hse := hsec _ (sv (by decide))
  simp only at hlv hse
  have hls := labelSecretI _ hlvl
  cases hs1 : secL (labN vs ar 5 (.mk vk vv vks)) <;> cases hs2 : secE vs ar 5 (.mk vk vv vks)
  all_goals
   rw [hs1] at hls
   rw [hs2] at hse
   refine dcZ Tryz.func79 ?_
   simp (maxSteps := 9999999) only [go_sem]
   iterate 10 ((try (refine drvZ Tryz.func79 ?_; simp (maxSteps := 9999999) only [go_sem])); (try ((with_reducible refine And.intro ?_ ?_) <;> (repeat' with_reducible apply And.intro) <;> try exact sd)); (try first | refine XK.p hlv ok115 ?_ | refine XK.gp hlv ok115 ?_ | refine XK.p hls ok134 ?_ | refine XK.gp hls ok134 ?_ | refine XK.p hse ok135 ?_ | refine XK.gp hse ok135 ?_ | refine XK.gs (DB false) ?_ | refine XK.gs (DI .i64 0) ?_))
  all_goals exact ret _ _ (by simp [leakR, St1.kind, St1.value, St1.index, hs1, hs2])
 ·subst hk
  have hlv := hlab _ (si rfl)
  have hlvl := hle (.mk ik iv iks)
  have hse := hsec _ (sv (by decide))
  simp only at hlv hse
  have hls := labelSecretI _ hlvl
  cases hs1 : secL (labN vs ar 5 (.mk ik iv iks)) <;> cases hs2 : secE vs ar 5 (.mk vk vv vks)
  all_goals
   rw [hs1] at hls
   rw [hs2] at hse
   refine dcZ Tryz.func79 ?_
   simp (maxSteps := 9999999) only [go_sem]
   iterate 10 ((try (refine drvZ Tryz.func79 ?_; simp (maxSteps := 9999999) only [go_sem])); (try ((with_reducible refine And.intro ?_ ?_) <;> (repeat' with_reducible apply And.intro) <;> try exact sd)); (try first | refine XK.p hlv ok115 ?_ | refine XK.gp hlv ok115 ?_ | refine XK.p hls ok134 ?_ | refine XK.gp hls ok134 ?_ | refine XK.p hse ok135 ?_ | refine XK.gp hse ok135 ?_ | refine XK.gs (DB false) ?_ | refine XK.gs (DI .i64 0) ?_))
  all_goals exact ret _ _ (by simp [leakR, St1.kind, St1.value, St1.index, hs1, hs2])
 ·have e3 : (k == 3) = false := by rcases hk with rfl | rfl <;> decide
  have f3 : (k = 3) = False := by rcases hk with rfl | rfl <;> simp
  have e2 : (k == 2) = false := by rcases hk with rfl | rfl <;> decide
  have f2 : (k = 2) = False := by rcases hk with rfl | rfl <;> simp
  have hse := hsec _ (sv (by omega))
  simp only at hse
  cases hs2 : secE vs ar 5 (.mk vk vv vks)
  all_goals
   rw [hs2] at hse
   refine dcZ Tryz.func79 ?_
   simp (maxSteps := 9999999) only [go_sem, e3, f3, e2, f2]
   iterate 10 ((try (refine drvZ Tryz.func79 ?_; simp (maxSteps := 9999999) only [go_sem, e3, f3, e2, f2])); (try ((with_reducible refine And.intro ?_ ?_) <;> (repeat' with_reducible apply And.intro) <;> try exact sd)); (try first | refine XK.p hse ok135 ?_ | refine XK.gp hse ok135 ?_ | refine XK.gs (DB false) ?_ | refine XK.gs (DI .i64 0) ?_))
  all_goals exact ret _ _ (by simp [leakR, St1.kind, St1.value, St1.index, hs2, f3, f2])
theorem checkCTI (p : Pg) (hl : p.vars.length ≤ mx) (hl2 : p.arrays.length ≤ mx) : DC Tryz.prog 35 [.agg p.cells] [] (fun r h => r = .tup [DI .i64 (strictR p).1, DI .i64 (strictR p).2] ∧ h = []) := by
 have hmx := mx_eq
 have hc := checkFlowI p hl hl2
 have ret : ∀ (x : Int × Int) (hp : Hp), x = strictR p → RetOb 0 (fun r h => r = .tup [DI .i64 (strictR p).1, DI .i64 (strictR p).2] ∧ h = []) (.tup [DI .i64 x.1, DI .i64 x.2]) hp := fun x hp h => by
  subst h
  exact RetOb.two ⟨rfl, rfl⟩
 generalize hR : (fun (r : D) (h : List (Option (List C))) => r = .tup [DI .i64 (strictR p).1, DI .i64 (strictR p).2] ∧ h = []) = R at ret ⊢
 clear hR
 by_cases hf : (chkR flowR p).1 = 0
 ·have hq : progOK p = true := by
   have := (chk_fine flowR p).1 hf
   unfold fineP at this
   simp only [Bool.and_eq_true] at this
   exact this.1
  have he : strictR p = chkR leakR p := by unfold strictR; rw [if_neg (by simpa using hf)]
  rw [he, chk_fir leakR hq] at ret
  have hlab := labs_of hq
  have hfo := firstOf p hq 79 ok79 leakR (fun d s c hc hs => leakI p hl hl2 hlab.1 hlab.2 d s hs c)
  rw [hf] at hc
  generalize (chkR flowR p).2 = y at *
  generalize firR leakR p = x at *
  obtain ⟨vs, ar, bd⟩ := p
  refine dcZ Tryz.func35 ?_
  simp (maxSteps := 9999999) only [go_sem]
  iterate 6 ((try (refine drvZ Tryz.func35 ?_; simp (maxSteps := 9999999) only [go_sem, bne_self_eq_false])); (try ((with_reducible refine And.intro ?_ ?_) <;> (repeat' with_reducible apply And.intro) <;> try exact sd)); (try first | refine XK.p hc ok65 ?_ | refine XK.gp hc ok65 ?_ | refine XK.p hfo ok78 ?_ | refine XK.gp hfo ok78 ?_))
  exact ret x _ rfl
 ·have he : strictR p = chkR flowR p := by unfold strictR; rw [if_pos hf]
  rw [he] at ret
  generalize chkR flowR p = x at *
  obtain ⟨x1, x2⟩ := x
  simp only at hf hc
  have g1 : (x1 = 0) = False := eq_false hf
  have g2 : (x1 != 0) = true := by simp [hf]
  obtain ⟨vs, ar, bd⟩ := p
  refine dcZ Tryz.func35 ?_
  simp (maxSteps := 9999999) only [go_sem]
  iterate 6 ((try (refine drvZ Tryz.func35 ?_; simp (maxSteps := 9999999) only [go_sem, g1, g2])); (try ((with_reducible refine And.intro ?_ ?_) <;> (repeat' with_reducible apply And.intro) <;> try exact sd)); (try first | refine XK.p hc ok65 ?_ | refine XK.gp hc ok65 ?_))
  exact ret (x1, x2) _ rfl
end Go.Proofs.YtpphageokplgoaaGreat.CtR
namespace Go.Proofs.YtpphageokplgoaaGreat.CtL
open Go Go.CT CtF CtR
open CtD (rel rel_app rel_eval)
theorem lab_mask {vs ar : List Int} {mk : Int} {e f : Ex} {L : Nat} (hm : mk < 0 ∨ Sub (nth vs mk).toNat L) (h1 : ∀ D, Sub (labN vs ar D e) L) (h2 : ∀ D, Sub (labN vs ar D f) L) : ∀ D, Sub (labN vs ar D (maskE mk e f)) L := by
 unfold maskE
 by_cases h : mk < 0
 ·rw [if_pos h]; exact h1
 ·rw [if_neg h]
  exact lab_sel (fun D => lab_v (hm.resolve_left h) D) h1 h2
theorem sec_mask {vs ar : List Int} {mk : Int} {e f : Ex} (h1 : ∀ D, secE vs ar D e = false) (h2 : ∀ D, secE vs ar D f = false) : ∀ D, secE vs ar D (maskE mk e f) = false := by
 unfold maskE
 by_cases h : mk < 0
 ·rw [if_pos h]; exact h1
 ·rw [if_neg h]; exact sec_sel sec_v h1 h2
theorem fn_sto {F ar : List Int} {pc : Nat} {t : Int} {i e : Ex} (h1 : ∀ D, Sub (labN F ar D e) (nth ar t).toNat) (h2 : ∀ D, secE F ar D e = false) (h3 : Sub pc (nth ar t).toNat) (h4 : ∀ D, Sub (labN F ar D i) (nth ar t).toNat) (h5 : ∀ D, secL (labN F ar D i) = false) : Fn1 F ar pc (sto t i e) := by
 refine ⟨rfl, rfl, by simp [sto, St1.kind], fun c hc => ⟨?_, ?_⟩⟩
 ·have h : subL (labN F ar 5 e ||| c ||| labN F ar 5 i) (nth ar t).toNat = true := sub_iff.2 (Sub.or.2 ⟨Sub.or.2 ⟨h1 5, hc.trans h3⟩, h4 5⟩)
  simp [flowR, sto, St1.kind, St1.target, storedN, St1.value, St1.index, h]
 ·simp [leakR, sto, St1.kind, St1.value, St1.index, h2, h5]
theorem secE_lab {vs ar : List Int} : ∀ (d : Nat) (e : Ex), secL (labN vs ar d e) = false → secE vs ar d e = false
 | 0, _, _ => rfl
 | d + 1, .mk k v ks, h => by
  have hk : ∀ x ∈ ks, secL (labN vs ar d x) = false := fun x hx => by
   have := ((labN_sub (vs := vs) (ar := ar) (d := d) (k := k) (v := v) (ks := ks)).1 (Sub.refl _)).2 x hx 0
   cases hx : secL (labN vs ar d x) with
   | false => rfl
   | true => exact absurd (this hx) (by simpa [secL] using h)
  simp only [secE, Bool.or_eq_false_iff, List.any_eq_false, Bool.and_eq_false_iff]
  refine ⟨?_, fun x hx => by rw [secE_lab d x (hk x hx)]; simp⟩
  match ks, hk with
  | [], _ =>
   right
   cases d <;> simp [kid0, labN, labB, secL]
  | a :: r, hk => exact .inr (hk a (by simp))
theorem lin_id {ar : List Int} {pc : Nat} : ∀ (d : Nat) (vs : List Int) (e : Ex), CtR.shape ⟨vs, ar, []⟩ d e = true → secE vs ar d e = false → linE ar pc d vs e = (vs, [], e)
 | 0, vs, e, _, _ => rfl
 | d + 1, vs, .mk k v ks, hs, h => by
  obtain ⟨g1, g2, g3⟩ := shape_succ hs
  simp only [secE, Bool.or_eq_false_iff, List.any_eq_false, Bool.and_eq_false_iff] at h
  have key : ∀ l : List Ex, (∀ x ∈ l, x ∈ ks) → linK (linE ar pc d) vs l = (vs, [], l) := by
   intro l
   induction l with
   | nil => intro _; rfl
   | cons a r ih =>
    intro hl
    have h1 := lin_id (pc := pc) d vs a (g2 a (hl a (by simp))) (by simpa using h.2 a (hl a (by simp)))
    have h2 := ih fun x hx => hl x (by simp [hx])
    simp only [linK, h1, h2, List.nil_append]
  have hk := key ks fun x hx => hx
  rw [linE, hk]
  simp only
  rw [if_neg]
  rintro ⟨k3, hsec⟩
  rcases h.1 with h1 | h1
  ·simp [k3] at h1
  ·rw [h1] at hsec; cases hsec
end Go.Proofs.YtpphageokplgoaaGreat.CtL
namespace Go.Proofs.YtpphageokplgoaaGreat.CtL
open Go Go.CT CtF CtR
open CtD (rel rel_app rel_eval)
theorem Sub.or2 {a b c : Nat} (h : Sub a c) (g : Sub b c) : Sub (a ||| b) c := Sub.or.2 ⟨h, g⟩
theorem FnL.rep {F ar : List Int} {c : Nat} {n : Int} {b : List St1} (h : FnL F ar c b) : FnL F ar c [.mk 4 0 e0 e0 n b []] := fun D c' hc => by
 cases D with
 | zero => exact ⟨rfl, rfl⟩
 | succ D =>
  have n1 : ∀ res c, fineL res F ar D c [] = true := fun res c => by cases D <;> rfl
  have hs : secE F ar 5 e0 = false := rfl
  have := h D c' hc
  simp [fineL, flowR, leakR, St1.kind, St1.body, St1.els, St1.value, ctxI, hs, n1, this]
theorem FnL.ife {F ar : List Int} {c l : Nat} {e : Ex} {b1 b2 : List St1} (hs : secL (labN F ar 5 e) = false) (hl : Sub (labN F ar 5 e) l) (h2 : secE F ar 5 e = false) (h : FnL F ar (c ||| l) b1) (g : FnL F ar (c ||| l) b2) : FnL F ar c [.mk 3 0 e0 e 0 b1 b2] := fun D c' hc => by
 cases D with
 | zero => exact ⟨rfl, rfl⟩
 | succ D =>
  have := h D (c' ||| labN F ar 5 e) (Sub.or2 hc.l hl.r)
  have := g D (c' ||| labN F ar 5 e) (Sub.or2 hc.l hl.r)
  simp [fineL, flowR, leakR, St1.kind, St1.body, St1.els, St1.value, ctxI, hs, h2, *]
theorem FnL.rls {F ar : List Int} {t : Int} {e : Ex} (h : trustL (labN F ar 5 e) = true) (h2 : secE F ar 5 e = false) : FnL F ar 0 [.mk 5 t e0 e 0 [] []] := fun D c' hc => by
 cases D with
 | zero => exact ⟨rfl, rfl⟩
 | succ D =>
  have n1 : ∀ res c, fineL res F ar D c [] = true := fun res c => by cases D <;> rfl
  have : c' = 0 := Nat.eq_of_testBit_eq fun β => by
   cases hx : c'.testBit β with
   | false => simp
   | true => exact absurd (hc β hx) (by simp)
  subst this
  simp [fineL, flowR, leakR, St1.kind, St1.body, St1.els, St1.value, h2, h, n1]
theorem more_tr {a b c : List Int} (h : ∃ w, b = a ++ w) (g : ∃ w, c = b ++ w) : ∃ w, c = a ++ w := by
 obtain ⟨x, rfl⟩ := h
 obtain ⟨y, rfl⟩ := g
 exact ⟨x ++ y, by simp⟩
theorem nth_lab1 {a b : List Int} {x y : Nat} : (nth (a ++ (lab1 x y ++ b)) (a.length : Int)).toNat = x ||| y := by
 unfold lab1
 rw [nth_last]
 rfl
theorem tyB_of {p : Pg} {F : List Int} {mk : Int} {pc : Nat} {f : List Int → St1 → List Int × List St1} :
 ∀ (l : List St1) (vs : List Int), Ext p vs → MkL p mk vs pc → (∃ w, F = (linB f vs l).1 ++ w) → (∀ s ∈ l, ∀ vs : List Int, p.vars.length ≤ vs.length → ∃ w, (f vs s).1 = vs ++ w) →
 (∀ s ∈ l, ∀ vs, Ext p vs → MkL p mk vs pc → (∃ w, F = (f vs s).1 ++ w) → FnL F p.arrays pc (f vs s).2) → FnL F p.arrays pc (linB f vs l).2
 | [], vs, _, _, _, _, _ => FnL.nil
 | s :: r, vs, hx, hmk, hF, hm, hS => by
  have h1 := hm s (by simp) vs hx.le
  have hm2 := linB_more (p := p) (d := 0) r (f vs s).1 (fun s hs => hm s (by simp [hs])) (by have := hx.le; have := more_le h1; omega)
  simp only [linB] at hF ⊢
  exact FnL.app (hS s (by simp) vs hx hmk (more_tr hm2 hF)) (tyB_of r _ (hx.more h1) (hmk.more h1 (Sub.refl _)) hF (fun s hs => hm s (by simp [hs])) fun s hs => hS s (by simp [hs]))
theorem tyS {p : Pg} {F : List Int} {d : Nat}
 (ih : ∀ mk pc vs l, (∀ s ∈ l, stmtOK p d s = true) → Ext p vs → MkL p mk vs pc → fineL (flowR p.vars p.arrays) p.vars p.arrays d pc l = true → (∃ w, F = (linB (linS p.arrays d mk pc) vs l).1 ++ w) → FnL F p.arrays pc (linB (linS p.arrays d mk pc) vs l).2)
 (mk : Int) (pc : Nat) (vs : List Int) (s : St1) (hs : stmtOK p (d + 1) s = true) (hx : Ext p vs) (hmk : MkL p mk vs pc) (hf : flowR p.vars p.arrays s pc = 0)
 (hfb : fineL (flowR p.vars p.arrays) p.vars p.arrays d (ctxI p.vars p.arrays s pc) s.body = true) (hfe : fineL (flowR p.vars p.arrays) p.vars p.arrays d (ctxI p.vars p.arrays s pc) s.els = true)
 (hF : ∃ w, F = (linS p.arrays (d + 1) mk pc vs s).1 ++ w) : FnL F p.arrays pc (linS p.arrays (d + 1) mk pc vs s).2 := by
 obtain ⟨k, t, ix, v, c, b, e⟩ := s
 obtain ⟨hh, hb, he⟩ := stmtOK_succ hs
 have hkk := head_kind hh
 obtain ⟨s1, s2⟩ := shapeV hs
 simp only [St1.body, St1.els] at hfb hfe
 have hxl := hx.le
 by_cases k4 : k = 4
 ·subst k4
  rw [linS_4] at hF ⊢
  exact FnL.rep (ih mk pc vs b hb hx hmk (by simpa [ctxI, St1.kind] using hfb) hF)
 have hsv := s1 k4
 have hsv2 : CtR.shape ⟨vs, p.arrays, []⟩ 5 v = true := shape_mono (p := p) (q := ⟨vs, p.arrays, []⟩) hxl rfl 5 v hsv
 have hlab : labN vs p.arrays 5 v = labN p.vars p.arrays 5 v := by
  obtain ⟨w, rfl⟩ := hx
  exact labN_app (bd := []) 5 v (shape_mono (p := p) (q := ⟨p.vars, p.arrays, []⟩) (Nat.le_refl _) rfl 5 v hsv)
 have hEm := (linE_ok (q := ⟨[], p.arrays, []⟩) rfl pc 5 vs v hsv2).more
 have hty := tyE (pc := pc) 5 F vs v hsv2
 have hid := lin_id (pc := pc) 5 vs v hsv2
 rw [hlab] at hty
 have hmore := lin_more1 (mk := mk) (pc := pc) (vs := vs) hs hxl
 generalize hEe : linE p.arrays pc 5 vs v = E at *
 by_cases k3 : k = 3
 ·subst k3
  have hctx : ctxI p.vars p.arrays (.mk 3 t ix v c b e) pc = pc ||| labN p.vars p.arrays 5 v := by simp [ctxI, St1.kind, St1.value]
  rw [hctx] at hfb hfe
  rw [linS_3, hEe, hlab] at hF ⊢
  have hsl := fun h => secE_lab (vs := vs) (ar := p.arrays) 5 v h
  rw [hlab] at hsl
  generalize labN p.vars p.arrays 5 v = l at *
  unfold linI at hF ⊢
  dsimp only at hF ⊢
  by_cases hsec : secL l = true
  ·rw [if_pos hsec] at hF ⊢
   simp only at hF ⊢
   have hx2 : Ext p (E.1 ++ lab1 pc l ++ lab1 pc l) := (hx.more hEm).more ⟨lab1 pc l ++ lab1 pc l, by simp⟩
   have hl2 : (E.1 ++ lab1 pc l ++ lab1 pc l).length = E.1.length + 2 := by simp [lab1]
   have hEl := more_le hEm
   have hv1 : (nth (E.1 ++ lab1 pc l ++ lab1 pc l) (E.1.length : Int)).toNat = pc ||| l := by rw [List.append_assoc]; exact nth_lab1
   have hv2 : (nth (E.1 ++ lab1 pc l ++ lab1 pc l) ((E.1.length + 1 : Nat) : Int)).toNat = pc ||| l := by
    have := nth_lab1 (a := E.1 ++ lab1 pc l) (b := []) (x := pc) (y := l)
    simpa [lab1] using this
   have hm1 : MkL p (E.1.length : Int) (E.1 ++ lab1 pc l ++ lab1 pc l) (pc ||| l) := .inr ⟨by omega, by omega, by rw [hv1]; exact Sub.refl _⟩
   have hm2 : MkL p ((E.1.length + 1 : Nat) : Int) (E.1 ++ lab1 pc l ++ lab1 pc l) (pc ||| l) := .inr ⟨by omega, by omega, by rw [hv2]; exact Sub.refl _⟩
   have hM1 := lin_more (p := p) d (E.1.length : Int) (pc ||| l) (E.1 ++ lab1 pc l ++ lab1 pc l) b hb hx2.le
   have hB1 := ih (E.1.length : Int) (pc ||| l) _ b hb hx2 hm1 hfb
   have hx3 := hx2.more hM1
   have hM2 := lin_more (p := p) d ((E.1.length + 1 : Nat) : Int) (pc ||| l) _ e he hx3.le
   have hB2 := ih ((E.1.length + 1 : Nat) : Int) (pc ||| l) _ e he hx3 (hm2.more hM1 (Sub.refl _)) hfe hF
   have hF1 := more_tr hM2 hF
   have hB1 := hB1 hF1
   have hF2 := more_tr hM1 hF1
   have hF3 : ∃ w, F = E.1 ++ w := more_tr ⟨lab1 pc l ++ lab1 pc l, by simp⟩ hF2
   have hty := hty hF3
   have hn1 : (nth F (E.1.length : Int)).toNat = pc ||| l := by rw [nth_more hF2 (by omega) (by omega), hv1]
   have hn2 : (nth F ((E.1.length + 1 : Nat) : Int)).toNat = pc ||| l := by rw [nth_more hF2 (by omega) (by omega), hv2]
   have hmF := (hmk.more hEm (Sub.refl _)).sub hF3
   have hmF2 : mk < 0 ∨ Sub (nth F mk).toNat (pc ||| l) := hmF.imp id fun h => h.l
   refine FnL.app (FnL.app (FnL.app (FnL.of hty.fin) (FnL.of fun s hs => ?_)) (hB1.le (Sub.left _ _))) (hB2.le (Sub.left _ _))
   simp only [maskS, List.mem_cons, List.not_mem_nil, or_false] at hs
   rcases hs with rfl | rfl
   ·refine fn_asg ?_ (sec_mask hty.sec sec_c) (by rw [hn1]; exact Sub.left _ _)
    rw [hn1]
    exact lab_mask hmF2 (fun D => (hty.lab D).trans (Sub.or2 (Sub.right _ _) (Sub.left _ _))) fun D => lab_c D
   ·refine fn_asg ?_ (sec_mask (sec_b (by omega) sec_v sec_c) sec_c) (by rw [hn2]; exact Sub.left _ _)
    rw [hn2]
    exact lab_mask hmF2 (lab_b (by omega) (fun D => lab_v (by rw [hn1]; exact Sub.refl _) D) fun D => lab_c D) fun D => lab_c D
  ·rw [if_neg hsec] at hF ⊢
   simp only at hF ⊢
   have hid := hid (hsl (by simpa using hsec))
   have hx2 : Ext p E.1 := hx.more hEm
   have hm1 : MkL p mk E.1 (pc ||| l) := hmk.more hEm (Sub.left _ _)
   have hM1 := lin_more (p := p) d mk (pc ||| l) E.1 b hb hx2.le
   have hx3 := hx2.more hM1
   have hM2 := lin_more (p := p) d mk (pc ||| l) _ e he hx3.le
   have hB2 := ih mk (pc ||| l) _ e he hx3 (hm1.more hM1 (Sub.refl _)) hfe hF
   have hF1 := more_tr hM2 hF
   have hB1 := ih mk (pc ||| l) _ b hb hx2 hm1 hfb hF1
   have hF3 := more_tr hM1 hF1
   have hty := hty hF3
   have hl5 : labN F p.arrays 5 E.2.2 = l := by
    have hFv := more_tr hEm hF3
    obtain ⟨w, eF⟩ := hFv
    rw [hid, eF, labN_app (bd := []) 5 v hsv2, hlab]
   refine FnL.app (FnL.of hty.fin) (FnL.ife (by rw [hl5]; simpa using hsec) (by rw [hl5]; exact Sub.refl _) (hty.sec 5) hB1 hB2)
 rw [linS_o k4 k3, hEe] at hF ⊢
 by_cases k5 : k = 5
 ·subst k5
  rw [linO_5] at hF ⊢
  have hr := flow_rel hf rfl
  have hpc := hr.1
  subst hpc
  have hty := hty hF
  refine FnL.app (FnL.of hty.fin) (FnL.rls ?_ (hty.sec 5))
  have h1 := hr.2
  simp only [St1.value] at h1
  unfold trustL at h1 ⊢
  cases hx : (labN F p.arrays 5 E.2.2).testBit 1 with
  | false => rfl
  | true =>
   have := hty.lab 5 1 hx
   rw [Nat.or_zero] at this
   rw [this] at h1; exact h1
 by_cases k1 : k = 1
 ·subst k1
  rw [linO_1] at hF ⊢
  have hty := hty hF
  have ht : 0 ≤ t ∧ t < p.vars.length := by omega
  have hfa : Sub (labN p.vars p.arrays 5 v ||| pc) (nth p.vars t).toNat := by
   have := sub_iff.1 (flow_assign hf rfl)
   simpa [St1.target, storedN, St1.kind, St1.value] using this
  have hFp : ∃ w, F = p.vars ++ w := more_tr hx (more_tr hEm hF)
  have hnt : nth F t = nth p.vars t := nth_more hFp ht.1 ht.2
  obtain ⟨hf1, hf2⟩ := Sub.or.1 hfa
  have hmF := (hmk.sub (more_tr hEm hF)).imp id fun h => h.trans hf2
  refine FnL.app (FnL.of hty.fin) (FnL.of fun s hs => ?_)
  simp only [List.mem_singleton] at hs
  subst hs
  refine fn_asg ?_ (sec_mask hty.sec sec_v) (by rw [hnt]; exact hf2)
  rw [hnt]
  exact lab_mask hmF (fun D => (hty.lab D).trans (Sub.or2 hf1 hf2)) fun D => lab_v (by rw [hnt]; exact Sub.refl _) D
 have k2 : k = 2 := by omega
 subst k2
 have ht : 0 ≤ t ∧ t < p.arrays.length := by omega
 have hsi := s2 rfl
 have hai : atom ix = true := by
  rcases hkk with h | h | h | h
  ·omega
  ·exact h.2.2.2.2.1
  ·omega
  ·omega
 have hfa : Sub (labN p.vars p.arrays 5 v ||| pc ||| labN p.vars p.arrays 5 ix) (nth p.arrays t).toNat := by
  have := sub_iff.1 (flow_store hf rfl)
  simpa [St1.target, storedN, St1.kind, St1.value, St1.index] using this
 obtain ⟨hf1, hf3⟩ := Sub.or.1 hfa
 obtain ⟨hf1, hf2⟩ := Sub.or.1 hf1
 have hsi2 : CtR.shape ⟨p.vars, p.arrays, []⟩ 5 ix = true := shape_mono (p := p) (q := ⟨p.vars, p.arrays, []⟩) (Nat.le_refl _) rfl 5 ix hsi
 have hlix : labN E.1 p.arrays 5 ix = labN p.vars p.arrays 5 ix := by
  obtain ⟨w, ew⟩ := hx.more hEm
  rw [ew]; exact labN_app (bd := []) 5 ix hsi2
 rw [linO_2, hlix] at hF ⊢
 by_cases hsec : secL (labN p.vars p.arrays 5 ix) = true
 ·rw [if_pos hsec] at hF ⊢
  simp only at hF ⊢
  have hF3 : ∃ w, F = E.1 ++ w := more_tr ⟨_, rfl⟩ hF
  have hty := hty hF3
  have hFp : ∃ w, F = p.vars ++ w := more_tr hx (more_tr hEm hF3)
  obtain ⟨wp, eFp⟩ := hFp
  have hli : ∀ D, Sub (labN F p.arrays D ix) (nth p.arrays t).toNat := fun D => (lab_atom eFp hsi2 hai D).trans hf3
  have hmF := (hmk.sub (more_tr hEm hF3)).imp id fun h => h.trans hf2
  have hnw : (nth F (E.1.length : Int)).toNat = labN E.1 p.arrays 5 E.2.2 ||| pc := by
   obtain ⟨w, eF⟩ := hF
   rw [eF, List.append_assoc]; exact nth_lab1
  have hle : Sub (labN E.1 p.arrays 5 E.2.2) (labN p.vars p.arrays 5 v ||| pc) := by
   have h5 := hty.lab 5
   have hsh := (linE_ok (q := ⟨[], p.arrays, []⟩) rfl pc 5 vs v hsv2).shp
   rw [hEe] at hsh
   obtain ⟨w, eF⟩ := hF3
   rw [eF, labN_app 5 _ hsh] at h5
   exact h5
  have hlw : ∀ D, Sub (labN F p.arrays D E.2.2) (labN E.1 p.arrays 5 E.2.2 ||| pc) := fun D => by
   have hsh := (linE_ok (q := ⟨[], p.arrays, []⟩) rfl pc 5 vs v hsv2).shp
   rw [hEe] at hsh
   obtain ⟨w, eF⟩ := hF3
   rw [← labN_app (more := w) 5 _ hsh, ← eF]
   have up : ∀ (n D : Nat), D ≤ n → ∀ e, Sub (labN F p.arrays D e) (labN F p.arrays n e) := by
    intro n
    induction n with
    | zero => intro D h e; have : D = 0 := by omega
              subst this; exact Sub.refl _
    | succ n ihn =>
     intro D h e
     match D, e with
     | 0, e => exact Sub.zero _
     | D + 1, .mk k v ks =>
      refine labN_sub.2 ⟨(labN_sub.1 (Sub.refl _)).1, fun x hx => (ihn D (by omega) x).trans ((labN_sub.1 (Sub.refl _)).2 x hx)⟩
   have dn : ∀ (d D : Nat) (e : Ex), CtR.shape ⟨E.1, p.arrays, []⟩ d e = true → Sub (labN F p.arrays D e) (labN F p.arrays d e) := by
    intro d
    induction d with
    | zero => intro D e h; simp [CtR.shape] at h
    | succ d ihd =>
     intro D e h
     match D, e, h with
     | 0, e, h => exact Sub.zero _
     | D + 1, .mk k v ks, h =>
      obtain ⟨g1, g2, g3⟩ := shape_succ h
      exact labN_sub.2 ⟨(labN_sub.1 (Sub.refl _)).1, fun x hx => (ihd D x (g2 x hx)).trans ((labN_sub.1 (Sub.refl _)).2 x hx)⟩
   exact (dn 5 D _ hsh).l
  refine FnL.app (FnL.of hty.fin) (FnL.app (a := [_]) (FnL.of fun s hs => ?_) (FnL.of fun s hs => ?_))
  ·simp only [List.mem_singleton] at hs
   subst hs
   exact fn_asg (by rw [hnw]; exact hlw) hty.sec (by rw [hnw]; exact Sub.right _ _)
  ·have one : ∀ k : Nat, Fn1 F p.arrays pc (stoN mk E.1.length t ix k) := fun k => by
    refine fn_sto ?_ (sec_sel (sec_mask (sec_hit (sec_atom hsi2 hai)) sec_c) sec_v sec_rdc) hf2 (fun D => lab_c D) fun D => ?_
    ·refine lab_sel (lab_mask hmF (lab_hit hli) fun D => lab_c D) (fun D => lab_v ?_ D) (lab_rd (Sub.refl _) fun D => lab_c D)
     rw [hnw]
     exact Sub.or2 (hle.trans (Sub.or2 hf1 hf2)) hf2
    ·have : Sub (labN F p.arrays D (cE k)) 0 := lab_c D
     cases h : secL (labN F p.arrays D (cE k)) with
     | false => rfl
     | true => exact absurd (this 0 h) (by simp)
   simp only [stoS, List.mem_cons, List.not_mem_nil, or_false] at hs
   rcases hs with rfl | rfl | rfl | rfl <;> exact one _
 ·rw [if_neg hsec] at hF ⊢
  simp only at hF ⊢
  have hty := hty hF
  have hFp : ∃ w, F = p.vars ++ w := more_tr hx (more_tr hEm hF)
  obtain ⟨wp, eFp⟩ := hFp
  have hla := lab_atom eFp hsi2 hai
  have hli : ∀ D, Sub (labN F p.arrays D ix) (nth p.arrays t).toNat := fun D => (hla D).trans hf3
  have hls : ∀ D, secL (labN F p.arrays D ix) = false := fun D => by
   cases h : secL (labN F p.arrays D ix) with
   | false => rfl
   | true => exact absurd (hla D 0 h) (by simpa [secL] using hsec)
  have hmF := (hmk.sub (more_tr hEm hF)).imp id fun h => h.trans hf2
  refine FnL.app (FnL.of hty.fin) (FnL.of fun s hs => ?_)
  simp only [List.mem_singleton] at hs
  subst hs
  exact fn_sto (lab_mask hmF (fun D => (hty.lab D).trans (Sub.or2 hf1 hf2)) (lab_rd (Sub.refl _) hli)) (sec_mask hty.sec (sec_rd hls (sec_atom hsi2 hai))) hf2 hli hls
theorem tyB {p : Pg} {F : List Int} : ∀ (d : Nat), ∀ mk pc vs l, (∀ s ∈ l, stmtOK p d s = true) → Ext p vs → MkL p mk vs pc → fineL (flowR p.vars p.arrays) p.vars p.arrays d pc l = true →
 (∃ w, F = (linB (linS p.arrays d mk pc) vs l).1 ++ w) → FnL F p.arrays pc (linB (linS p.arrays d mk pc) vs l).2
 | 0, mk, pc, vs, l, hok, hx, hmk, hf, hF => by
  match l, hok with
  | [], _ => exact FnL.nil
  | s :: r, hok => exact absurd (hok s (by simp)) (by simp [stmtOK])
 | d + 1, mk, pc, vs, l, hok, hx, hmk, hf, hF => by
  simp only [fineL, List.all_eq_true, Bool.and_eq_true, beq_iff_eq] at hf
  exact tyB_of l vs hx hmk hF (fun s hs vs hl => lin_more1 (hok s hs) hl) fun s hs vs hx hmk hF => tyS (fun mk pc vs l => tyB d mk pc vs l) mk pc vs s (hok s hs) hx hmk (hf s hs).1.1 (hf s hs).1.2 (hf s hs).2 hF
end Go.Proofs.YtpphageokplgoaaGreat.CtL
namespace Go.Proofs.YtpphageokplgoaaGreat.CtL
open Go Go.CT CtF CtR
open CtD (rel rel_app rel_eval)
theorem linB_one {f : List Int → St1 → List Int × List St1} {vs : List Int} : ∀ l : List St1, (∀ s ∈ l, f vs s = (vs, [s])) → linB f vs l = (vs, l)
 | [], _ => rfl
 | s :: r, h => by
  have h1 := h s (by simp)
  have h2 := linB_one r fun s hs => h s (by simp [hs])
  simp only [linB, h1, h2, List.cons_append, List.nil_append]
theorem linB_id {p : Pg} : ∀ (d pc c : Nat) (vs : List Int) (l : List St1), (∀ s ∈ l, stmtOK p d s = true) → Ext p vs → fineL (leakR p.vars p.arrays) p.vars p.arrays d c l = true → linB (linS p.arrays d (-1) pc) vs l = (vs, l)
 | 0, pc, c, vs, l, hok, hx, hf => by
  match l, hok with
  | [], _ => rfl
  | s :: r, hok => exact absurd (hok s (by simp)) (by simp [stmtOK])
 | d + 1, pc, cc, vs, l, hok, hx, hf => by
  simp only [fineL, List.all_eq_true, Bool.and_eq_true, beq_iff_eq] at hf
  refine linB_one l fun s hs => ?_
  have hso := hok s hs
  obtain ⟨⟨f1, f2⟩, f3⟩ := hf s hs
  obtain ⟨g1, g2, g3⟩ := leak_spec f1
  obtain ⟨k, t, ix, v, c, b, e⟩ := s
  obtain ⟨hh, hb, he⟩ := stmtOK_succ hso
  obtain ⟨q1, q2, q3, q4⟩ := head_parts hh
  obtain ⟨s1, s2⟩ := shapeV hso
  have hkk := head_kind hh
  simp only [St1.kind, St1.value, St1.index, St1.body, St1.els] at g1 g2 g3 f2 f3
  have ihb := fun pc => linB_id d pc _ vs b hb hx f2
  have ihe := fun pc => linB_id d pc _ vs e he hx f3
  by_cases k4 : k = 4
  ·subst k4
   obtain ⟨rfl, rfl, rfl⟩ := q1 rfl
   obtain rfl := q4 (.inr rfl)
   rw [linS_4, ihb]
  obtain ⟨rfl, hix⟩ := q2 k4
  have hsv2 : CtR.shape ⟨vs, p.arrays, []⟩ 5 v = true := shape_mono (p := p) (q := ⟨vs, p.arrays, []⟩) hx.le rfl 5 v (s1 k4)
  obtain ⟨w, ew⟩ := hx
  have hap : ∀ e d, CtR.shape p d e = true → labN vs p.arrays d e = labN p.vars p.arrays d e := fun e d h => by
   rw [ew]; exact labN_app (bd := []) d e (shape_mono (p := p) (q := ⟨p.vars, p.arrays, []⟩) (Nat.le_refl _) rfl d e h)
  have hsec : secE vs p.arrays 5 v = false := by
   have key : ∀ (d : Nat) (e : Ex), CtR.shape p d e = true → secE vs p.arrays d e = secE p.vars p.arrays d e := by
    intro d
    induction d with
    | zero => intro e h; rfl
    | succ d ih =>
     intro e h
     obtain ⟨k, v, ks⟩ := e
     obtain ⟨g1, g2, g3⟩ := shape_succ h
     simp only [secE]
     have e1 : ks.any (secE vs p.arrays d) = ks.any (secE p.vars p.arrays d) := by
      rw [Bool.eq_iff_iff, List.any_eq_true, List.any_eq_true]
      exact ⟨fun ⟨x, hx, h⟩ => ⟨x, hx, by rw [← ih x (g2 x hx)]; exact h⟩, fun ⟨x, hx, h⟩ => ⟨x, hx, by rw [ih x (g2 x hx)]; exact h⟩⟩
     rw [e1]
     match ks, g2 with
     | [], _ =>
      have : labN vs p.arrays d (kid0 []) = labN p.vars p.arrays d (kid0 []) := by cases d <;> simp [kid0, labN, labB]
      rw [this]
     | a :: r, g2 => rw [show kid0 (a :: r) = a from rfl, hap a d (g2 a (by simp))]
   rw [key 5 v (s1 k4)]; exact g3
  have hid := lin_id (pc := pc) 5 vs v hsv2 hsec
  by_cases k3 : k = 3
  ·subst k3
   obtain rfl := hix (by omega)
   obtain rfl := q4 (.inl rfl)
   have hl := g1 rfl
   rw [linS_3, hid]
   unfold linI
   dsimp only
   rw [hap v 5 (s1 k4), if_neg (by rw [hl]; simp)]
   simp only [ihb, ihe, List.nil_append]
  obtain ⟨rfl, rfl⟩ := q3 k3 k4
  rw [linS_o k4 k3, hid]
  have hm : ∀ e f, maskE (-1) e f = e := fun e f => by simp [maskE]
  by_cases k5 : k = 5
  ·subst k5
   obtain rfl := hix (by omega)
   rw [linO_5]; rfl
  by_cases k1 : k = 1
  ·subst k1
   obtain rfl := hix (by omega)
   rw [linO_1, hm]; rfl
  have k2 : k = 2 := by omega
  subst k2
  rw [linO_2]; simp only [hm]; rw [hap ix 5 (s2 rfl), if_neg (by rw [g2 rfl]; simp)]; rfl
theorem bd_shape {p q : Pg} : ∀ (d : Nat) (e : Ex), CtR.shape q d e = true → Bd p e → CtR.shape p d e = true
 | 0, e, h, _ => by simp [CtR.shape] at h
 | d + 1, .mk k v ks, h, ⟨D, hD⟩ => by
  match D, hD with
  | 0, hD => simp [CtR.shape] at hD
  | D + 1, hD =>
   obtain ⟨g1, g2, g3⟩ := shape_succ h
   obtain ⟨f1, f2, f3⟩ := shape_succ hD
   exact shape_of f1 (fun x hx => bd_shape d x (g2 x hx) ⟨D, f2 x hx⟩) g3
theorem bd_right {p q : Pg} {e : Ex} (h : right q e = true) (hb : Bd p e) : right p e = true := by
 simp only [right, Bool.and_eq_true, decide_eq_true_eq] at h ⊢
 exact ⟨bd_shape 5 e h.1 hb, h.2⟩
theorem bd_ok {p q : Pg} (hna : q.arrays.length = p.arrays.length) : ∀ (d : Nat) (s : St1), stmtOK q d s = true → BdS p d s → stmtOK p d s = true
 | 0, s, h, _ => by simp [stmtOK] at h
 | d + 1, .mk k t ix v c b e, h, hb => by
  obtain ⟨a1, a2, a3, a4, a5, a6, a7⟩ := hb
  obtain ⟨hh, g1, g2⟩ := stmtOK_succ h
  simp only [stmtOK, Bool.and_eq_true, List.all_eq_true]
  refine ⟨⟨?_, fun s hs => bd_ok hna d s (g1 s hs) (a4 s hs)⟩, fun s hs => bd_ok hna d s (g2 s hs) (a5 s hs)⟩
  unfold headOK at hh ⊢
  simp only [Bool.and_eq_true] at hh ⊢
  refine ⟨hh.1, ?_⟩
  have h2 := hh.2
  by_cases k1 : k = 1 ∨ k = 5
  ·rw [if_pos k1] at h2 ⊢
   simp only [Bool.and_eq_true, decide_eq_true_eq] at h2 ⊢
   exact ⟨⟨h2.1.1, by have := a1 k1; omega⟩, bd_right h2.2 (a2 (by omega))⟩
  rw [if_neg k1] at h2 ⊢
  by_cases k2 : k = 2
  ·rw [if_pos k2] at h2 ⊢
   simp only [Bool.and_eq_true, decide_eq_true_eq] at h2 ⊢
   rw [hna] at h2
   exact ⟨⟨⟨⟨h2.1.1.1.1, h2.1.1.1.2⟩, bd_right h2.1.1.2 (a3 k2)⟩, h2.1.2⟩, bd_right h2.2 (a2 (by omega))⟩
  rw [if_neg k2] at h2 ⊢
  by_cases k3 : k = 3
  ·rw [if_pos k3] at h2 ⊢
   exact bd_right h2 (a2 (by omega))
  ·rw [if_neg k3] at h2 ⊢; exact h2
end Go.Proofs.YtpphageokplgoaaGreat.CtL
namespace Go.Proofs.YtpphageokplgoaaGreat.CtL
open Go Go.CT CtF CtR
open CtD (rel rel_app rel_eval)
theorem lin_ct {p : Pg} (hf : fineP flowR p = true) (hq : progOK (linQ p) = true) : fineP flowR (linQ p) = true ∧ fineP leakR (linQ p) = true := by
 obtain ⟨hok, hfl⟩ := fineP_ok hf
 have h := tyB (p := p) (F := (linQ p).vars) 5 (-1) 0 p.vars p.body (body_of hok).1 ⟨[], by simp⟩ (.inl (by omega)) hfl ⟨[], by simp [linQ]⟩ 5 0 (Sub.refl _)
 simp only [fineP, hq, Bool.true_and]
 exact h
theorem rel_none {l : List Ev} (h : ∀ x ∈ l, x.kind ≠ 4) : rel l = [] := by
 unfold rel
 rw [List.filter_eq_nil_iff]
 intro x hx
 simpa using h x hx
theorem lin_trace {p : Pg} {a b : Mm} (hf : fineP flowR p = true) (hq : progOK (linQ p) = true) (ha : memOK p.vars p.arrays a = true) (hb : memOK p.vars p.arrays b = true) (hr : freeP p = true) (hl : LowM 0 p a b) :
 (runL 5 (extM (linQ p).vars.length a) (linQ p).body).2 = (runL 5 (extM (linQ p).vars.length b) (linQ p).body).2 := by
 obtain ⟨hs, hmf, hme⟩ := lin_sim hf hq ha
 obtain ⟨_, hmf2, hme2⟩ := lin_sim hf hq hb
 obtain ⟨hok, _⟩ := fineP_ok hf
 obtain ⟨h1, h2⟩ := lin_ct hf hq
 have hfr : freeL 5 p.body = true := by
  simp only [freeP, Bool.and_eq_true] at hr
  exact hr.2
 have hre : rel (runL 5 a p.body).2 = [] := rel_none (free_ev 5 p.body hfr a)
 have hre2 := hs.re
 rw [hre] at hre2
 rcases run_ct (p := linQ p) 5 0 (linQ p).body (body_of hq).1 (fineP_ok h1).2 (fineP_ok h2).2 _ _ (LowM.ext hl hmf hmf2 (linQ_ext hok hq)) with h | ⟨pre, v, v', r, r', _, e, _⟩
 ·exact h.2
 ·have : rel (runL 5 (extM (linQ p).vars.length a) (linQ p).body).2 = rel (pre ++ ⟨4, v⟩ :: r) := by rw [← e]; rfl
  rw [this, rel_app] at hre2
  simp [rel] at hre2
theorem lin_same {p : Pg} (h1 : fineP flowR p = true) (h2 : fineP leakR p = true) : linQ p = p := by
 obtain ⟨hok, _⟩ := fineP_ok h1
 have := linB_id (p := p) 5 0 0 p.vars p.body (body_of hok).1 ⟨[], by simp⟩ (fineP_ok h2).2
 unfold linQ
 rw [this]
theorem extM_same {p : Pg} {m : Mm} (h : m.vals.length = p.vars.length) : extM p.vars.length m = m := by
 obtain ⟨va, ar⟩ := m
 simp only at h
 simp [extM, h]
theorem fineL_sub {res : St1 → Nat → Int} {vs ar : List Int} {d c : Nat} {l l2 : List St1} (h : fineL res vs ar d c l = true) (hs : ∀ s ∈ l2, s ∈ l) : fineL res vs ar d c l2 = true := by
 cases d with
 | zero => rfl
 | succ d =>
  simp only [fineL, List.all_eq_true] at h ⊢
  exact fun s hx => h s (hs s hx)
theorem lin_first {p : Pg} (hf : fineP flowR p = true) (hq : progOK (linQ p) = true) (k : Nat) : fineP flowR ⟨p.vars, p.arrays, p.body.take k⟩ = true ∧ progOK (linQ ⟨p.vars, p.arrays, p.body.take k⟩) = true := by
 obtain ⟨hok, hfl⟩ := fineP_ok hf
 have hl := lsize_app 5 (p.body.take k) (p.body.drop k)
 rw [List.take_append_drop] at hl
 have h1 : progOK ⟨p.vars, p.arrays, p.body.take k⟩ = true := progOK_sub (vs := p.vars) (ar := p.arrays) (bd := p.body) hok (fun s hs => List.mem_of_mem_take hs) (by omega)
 refine ⟨by simp only [fineP, h1, Bool.true_and]; exact fineL_sub hfl fun s hs => List.mem_of_mem_take hs, ?_⟩
 have hap := linB_app (f := linS p.arrays 5 (-1) 0) (p.body.take k) (p.body.drop k) p.vars
 rw [List.take_append_drop] at hap
 have hb1 := (body_of hok).1
 have hbt : ∀ s ∈ p.body.take k, stmtOK p 5 s = true := fun s hs => hb1 s (List.mem_of_mem_take hs)
 have hbd : ∀ s ∈ p.body.drop k, stmtOK p 5 s = true := fun s hs => hb1 s (List.mem_of_mem_drop hs)
 have m1 := lin_more (p := p) 5 (-1) 0 p.vars (p.body.take k) hbt (Nat.le_refl _)
 have m2 := lin_more (p := p) 5 (-1) 0 _ (p.body.drop k) hbd (more_le m1)
 have hbd1 := bdB (p := p) 5 (-1) 0 p.vars (p.body.take k) hbt (Nat.le_refl _) (by omega)
 have hQ : linQ p = ⟨(linB (linS p.arrays 5 (-1) 0) p.vars p.body).1, p.arrays, (linB (linS p.arrays 5 (-1) 0) p.vars p.body).2⟩ := rfl
 have hQ1 : linQ ⟨p.vars, p.arrays, p.body.take k⟩ = ⟨(linB (linS p.arrays 5 (-1) 0) p.vars (p.body.take k)).1, p.arrays, (linB (linS p.arrays 5 (-1) 0) p.vars (p.body.take k)).2⟩ := rfl
 rw [hQ1]
 rw [hQ, hap] at hq
 generalize linB (linS p.arrays 5 (-1) 0) p.vars (p.body.take k) = A at *
 generalize linB (linS p.arrays 5 (-1) 0) A.1 (p.body.drop k) = B at *
 obtain ⟨w2, e2⟩ := m2
 have hAl := more_le m1
 simp only [progOK, headsOK, labs, Bool.and_eq_true, decide_eq_true_eq, List.all_eq_true] at hq ⊢
 obtain ⟨⟨⟨⟨⟨⟨q1, q2⟩, q3⟩, q4⟩, q5⟩, q6⟩, q7⟩ := hq
 have hpl := prog_len2 hok
 have hls := lsize_app 5 A.2 B.2
 refine ⟨⟨⟨⟨⟨⟨by omega, by rw [e2] at q2; simp only [List.length_append] at q2; omega⟩, q3⟩, fun x hx => q4 x (by rw [e2]; simp [hx])⟩, q5⟩, fun s hs => ?_⟩, by omega⟩
 have h3 := bd_ok (p := PV A.1 p.arrays) (q := ⟨B.1, p.arrays, A.2 ++ B.2⟩) rfl 5 s (q6 s (by simp [hs])) (hbd1 s hs 5)
 rw [stmtOK_bd A.1 p.arrays A.2 []]
 exact h3
end Go.Proofs.YtpphageokplgoaaGreat.CtL
namespace Go.Proofs.YtpphageokplgoaaGreat.CtD
open Go Go.CT CtF CtR
open CtL (extM resM extOK extP resP)
theorem ownM0 (m : Mm) (hv : m.vals.length ≤ 1000) (ha : m.arrays.length ≤ 2) (h4 : ∀ a ∈ m.arrays, a.length = 4) : DC Tryz.prog 57 [.agg m.cells] [] (fun d h => d = .agg m.cells ∧ h = []) :=
 DC.weaken (own m hv ha h4) fun d h' ⟨e1, e2⟩ _ => by subst e1 e2; exact RetOb.mem0 (k2 := 2) (k3 := 3) ha h4 ⟨rfl, rfl⟩ rfl rfl rfl rfl rfl rfl (by decide)
theorem restrictI (p q : Pg) (m : Mm) (hp : p.vars.length ≤ 1000) (hp2 : p.arrays.length ≤ 1000) (hq : q.vars.length ≤ 1000) (hq2 : q.arrays.length ≤ 1000) (he : extOK p q = true) (hm : memOK q.vars q.arrays m = true) :
 DC Tryz.prog 34 [.agg p.cells, .agg q.cells, .agg m.cells] [] (fun r h => r = .tup [.agg (resM p.vars.length m).cells, DB true] ∧ h = []) := by
 have hmx := mx_eq
 have hx := extendsI p q hp hp2 hq hq2 he
 have him := isMemory q.vars q.arrays m (by omega) (by omega)
 rw [hm] at him
 simp only [extOK, Bool.and_eq_true, decide_eq_true_eq] at he
 obtain ⟨f1, f2, f3, f4, f5⟩ := mem_facts he.1.1.1.2 hm
 have ho := ownM0 m (by omega) f4 f5
 have hle : p.vars.length ≤ m.vals.length := by have := he.1.1.2; omega
 have hcl := cloneI (m.vals.take p.vars.length) (by rw [List.length_take]; omega)
 generalize hR : (fun (r : D) (h : List (Option (List C))) => r = .tup [.agg (resM p.vars.length m).cells, DB true] ∧ h = []) = R
 obtain ⟨vs, ar, bd⟩ := p
 obtain ⟨vs', ar', bd'⟩ := q
 obtain ⟨va, arr⟩ := m
 simp only [ints, Mm.cells, isI, List.map_take] at him hle ho f3 hp hcl
 have hle2 : (va.take vs.length).length = vs.length := by rw [List.length_take]; omega
 refine dcZ Tryz.func34 ?_
 simp (maxSteps := 9999999) only [go_sem, Mm.cells]
 iterate 8 ((try (refine drvZ Tryz.func34 ?_; simp (maxSteps := 9999999) only [go_sem, hle, List.map_take])); (try ((with_reducible refine And.intro ?_ ?_) <;> (repeat' with_reducible apply And.intro) <;> try exact sd)); (try first | refine XK.p hx ok70 ?_ | refine XK.gp hx ok70 ?_ | refine XK.p him ok71 ?_ | refine XK.gp him ok71 ?_ | refine XK.p ho ok57 ?_ | refine XK.gp ho ok57 ?_))
 refine XK.callG [] hcl ok66 (fun i' x h => by simp at h) (hbT ()) (fun d h' ⟨_, e⟩ => by subst e; simp) ?_
 rintro _ _ ⟨rfl, rfl⟩ _
 iterate 3 ((try (refine drvZ Tryz.func34 ?_; simp (maxSteps := 9999999) only [go_sem, renCs_I])); (try ((with_reducible refine And.intro ?_ ?_) <;> (repeat' with_reducible apply And.intro) <;> try exact sd)))
 refine RetOb.ofQ (fun _ => none) [1792] (.tup [.agg (Mm.cells ⟨va.take vs.length, arr⟩), DB true]) [] ?_ (by rw [← hR]; exact ⟨rfl, rfl⟩) (by simp)
 have hrc : ∀ r, renCs r ((va.map I64).take vs.length) = (va.take vs.length).map I64 := fun r => by rw [← List.map_take, renCs_I]
 simp [-List.map_take, hrc, enumL, DM, DMs, CM, CMs, HpOK, LowOK, hOf, upd, Mm.cells, isI, flat_I, kf]
end Go.Proofs.YtpphageokplgoaaGreat.CtD
