/- Contracts of functions of the program, one behind the other, as plain data: what each call returns and which blocks it leaves. -/
import Derived.Test.YtpphageokplgoaaGreatPFacts
import Derived.Test.YtpphageokplgoaaGreatPAj
import Derived.Test.YtpphageokplgoaaGreatPAk
import Derived.Test.YtpphageokplgoaaGreatPAl
import Derived.Test.YtpphageokplgoaaGreatPAn
import Derived.Test.YtpphageokplgoaaGreatPAr
import Derived.Test.YtpphageokplgoaaGreatPAt
import Derived.Test.YtpphageokplgoaaGreatPAu
import Derived.Test.YtpphageokplgoaaGreatPAo
import Derived.Test.YtpphageokplgoaaGreatPAs
import Derived.Test.YtpphageokplgoaaGreatPAm
set_option linter.unusedVariables false
set_option linter.unusedSimpArgs false
set_option maxHeartbeats 16000000
set_option maxRecDepth 100000
namespace Go.Proofs.YtpphageokplgoaaGreat.CtR
open Go Go.CT CtF
theorem storedI (p : Pg) (hl : p.vars.length ≤ mx) (hl2 : p.arrays.length ≤ mx) (h1 : lab3 p.vars) (h2 : lab3 p.arrays) (s : St1) (hv : shape p 5 s.value = true) (hi : s.kind = 2 → shape p 5 s.index = true) (c : Nat) (hc : c ≤ 3) :
 DC Tryz.prog 162 [.agg p.cells, .agg s.cells, DI .i64 c] [] (fun r h => r = DI .i64 (storedN p.vars p.arrays s c) ∧ h = []) := by
 have hmx := mx_eq
 have hlv := labelI p hl hl2 h1 h2 5 s.value hv
 have hli := fun h => labelI p hl hl2 h1 h2 5 s.index (hi h)
 have hle := labN_le h1 h2 5
 obtain ⟨vs, ar, bd⟩ := p
 have hlvl := hle s.value
 have hlil := hle s.index
 by_cases hk : s.kind = 2
 ·have he : storedN vs ar s c = labN vs ar 5 s.value ||| c ||| labN vs ar 5 s.index := by unfold storedN; rw [if_pos hk]
  have hli := hli hk
  simp only at he hli hlv hlvl hlil ⊢
  rw [he]
  generalize labN vs ar 5 s.value = lv at *
  generalize labN vs ar 5 s.index = li at *
  have ho := or3 hlvl hc
  obtain ⟨k, t, ⟨ik, iv, iks⟩, ⟨vk, vv, vks⟩, cc, b, e⟩ := s
  have hk : k = 2 := hk
  subst hk
  generalize hR : (fun (r : D) (h : List (Option (List C))) => r = DI .i64 ((lv ||| c ||| li : Nat) : Int) ∧ h = []) = R
  refine dcZ Tryz.func162 ?_
  simp (maxSteps := 9999999) only [go_sem]
  iterate 6 ((try (refine drvZ Tryz.func162 ?_; simp (maxSteps := 9999999) only [go_sem])); (try ((with_reducible refine And.intro ?_ ?_) <;> (repeat' with_reducible apply And.intro) <;> try exact sd)); (try first | refine XK.p hlv ok115 ?_ | refine XK.gp hlv ok115 ?_ | refine XK.p hli ok115 ?_ | refine XK.gp hli ok115 ?_))
  subst hR
  exact RetOb.plain (d := DI .i64 _) ⟨rfl, rfl⟩ rfl
 ·have he : storedN vs ar s c = labN vs ar 5 s.value ||| c := by unfold storedN; rw [if_neg hk]
  simp only at he hlv hlvl ⊢
  rw [he]
  generalize labN vs ar 5 s.value = lv at *
  obtain ⟨k, t, ⟨ik, iv, iks⟩, ⟨vk, vv, vks⟩, cc, b, e⟩ := s
  have hk : k ≠ 2 := hk
  have g1 : (k = 2) = False := eq_false hk
  have g2 : (k == 2) = false := by simp [hk]
  generalize hR : (fun (r : D) (h : List (Option (List C))) => r = DI .i64 ((lv ||| c : Nat) : Int) ∧ h = []) = R
  refine dcZ Tryz.func162 ?_
  simp (maxSteps := 9999999) only [go_sem]
  iterate 6 ((try (refine drvZ Tryz.func162 ?_; simp (maxSteps := 9999999) only [go_sem, g1, g2])); (try ((with_reducible refine And.intro ?_ ?_) <;> (repeat' with_reducible apply And.intro) <;> try exact sd)); (try first | refine XK.p hlv ok115 ?_ | refine XK.gp hlv ok115 ?_))
  subst hR
  exact RetOb.plain (d := DI .i64 _) ⟨rfl, rfl⟩ rfl
theorem flowI (p : Pg) (hl : p.vars.length ≤ mx) (hl2 : p.arrays.length ≤ mx) (h1 : lab3 p.vars) (h2 : lab3 p.arrays) (d : Nat) (s : St1) (hs : stmtOK p (d + 1) s = true) (c : Nat) (hc : c ≤ 3) :
 DC Tryz.prog 113 [.agg p.cells, .agg s.cells, DI .i64 c] [] (fun r h => r = DI .i64 (flowR p.vars p.arrays s c) ∧ h = []) := by
 have hmx := mx_eq
 have hlab := labelI p hl hl2 h1 h2 5
 have hsto := storedI p hl hl2 h1 h2
 have hle := labN_le h1 h2 5
 obtain ⟨vs, ar, bd⟩ := p
 have h1 : lab3 vs := h1
 have h2 : lab3 ar := h2
 have ret : ∀ (n : Int) (hp : Hp), n = flowR vs ar s c → RetOb 0 (fun r h => r = DI .i64 (flowR vs ar s c) ∧ h = []) (DI .i64 n) hp := fun n hp h => RetOb.plain (d := DI .i64 _) ⟨by rw [h], rfl⟩ rfl
 simp only at ret hle ⊢
 generalize hR : (fun (r : D) (h : List (Option (List C))) => r = DI .i64 (flowR vs ar s c) ∧ h = []) = R at ret ⊢
 clear hR
 obtain ⟨k, t, ⟨ik, iv, iks⟩, ⟨vk, vv, vks⟩, cc, b, e⟩ := s
 have hh := head_kind (stmtOK_succ hs).1
 obtain ⟨sv, si⟩ := shapeV hs
 have hst : k = 1 ∨ k = 2 → storedN vs ar (.mk k t (.mk ik iv iks) (.mk vk vv vks) cc b e) c ≤ 3 := fun _ => by
  unfold storedN; split
  ·exact or3 (or3 (hle _) hc) (hle _)
  ·exact or3 (hle _) hc
 rcases hh with ⟨hk, ht0, ht1, hr⟩ | ⟨rfl, ht0, ht1, hri, hat, hr⟩ | ⟨rfl, hr⟩ | ⟨rfl, _, _⟩
 ·obtain ⟨T, hT, hTe, htt⟩ := lab_at h1 ht0 ht1
  rcases hk with rfl | rfl
  ·have hsv := hsto (.mk 1 t (.mk ik iv iks) (.mk vk vv vks) cc b e) (sv (by decide)) (fun h => by simp [St1.kind] at h) c hc
   have hfl := flowsI _ T (hst (.inl rfl)) hT
   have he : flowR vs ar (.mk 1 t (.mk ik iv iks) (.mk vk vv vks) cc b e) c = if subL (storedN vs ar (.mk 1 t (.mk ik iv iks) (.mk vk vv vks) cc b e) c) (nth vs t).toNat = true then 0 else 1 := rfl
   rw [he, hTe] at ret
   simp only at hsv
   generalize storedN vs ar (.mk 1 t (.mk ik iv iks) (.mk vk vv vks) cc b e) c = st at *
   generalize subL st T = sub at *
   rcases hx : ar[t.toNat]? with _ | y <;> cases sub
   all_goals
    refine dcZ Tryz.func113 ?_
    simp (maxSteps := 9999999) only [go_sem]
    iterate 12 ((try (refine drvZ Tryz.func113 ?_; simp (maxSteps := 9999999) only [go_sem, htt, hx])); (try ((with_reducible refine And.intro ?_ ?_) <;> (repeat' with_reducible apply And.intro) <;> try exact sd)); (try first | refine XK.p hsv ok162 ?_ | refine XK.gp hsv ok162 ?_ | refine XK.p hfl ok161 ?_ | refine XK.gp hfl ok161 ?_ | refine XK.gs (DB false) ?_ | refine XK.gs (DI .i64 0) ?_))
   all_goals exact ret _ _ (by rfl)
  ·have hlv := hlab _ (right_shape hr).1
   have hlvl := hle (.mk vk vv vks)
   have he : flowR vs ar (.mk 5 t (.mk ik iv iks) (.mk vk vv vks) cc b e) c = if trustL (labN vs ar 5 (.mk vk vv vks)) && c == 0 then 0 else 2 := rfl
   rw [he] at ret
   simp only at hlv
   generalize labN vs ar 5 (.mk vk vv vks) = lv at *
   have htr := labelTrustedI lv hlvl
   generalize trustL lv = tr at *
   have hcz : c = 0 ∨ (c ≠ 0 ∧ ((c : Int) = 0) = False ∧ ((c : Int) != 0) = true) := by
    rcases Nat.eq_zero_or_pos c with h | h
    ·exact .inl h
    ·exact .inr ⟨by omega, eq_false (by omega), by simp; omega⟩
   rcases hcz with rfl | ⟨hc1, hc2, hc3⟩
   ·rcases hx : ar[t.toNat]? with _ | y <;> cases tr
    all_goals
     refine dcZ Tryz.func113 ?_
     simp (maxSteps := 9999999) only [go_sem]
     iterate 12 ((try (refine drvZ Tryz.func113 ?_; simp (maxSteps := 9999999) only [go_sem, htt, hx, Int.natCast_zero])); (try ((with_reducible refine And.intro ?_ ?_) <;> (repeat' with_reducible apply And.intro) <;> try exact sd)); (try first | refine XK.p hlv ok115 ?_ | refine XK.gp hlv ok115 ?_ | refine XK.p htr ok163 ?_ | refine XK.gp htr ok163 ?_ | refine XK.gs (DB false) ?_ | refine XK.gs (DI .i64 0) ?_))
    all_goals exact ret _ _ (by rfl)
   ·have hce : (c == 0) = false := by simp [hc1]
    rw [hce] at ret
    rcases hx : ar[t.toNat]? with _ | y <;> cases tr
    all_goals
     refine dcZ Tryz.func113 ?_
     simp (maxSteps := 9999999) only [go_sem]
     iterate 12 ((try (refine drvZ Tryz.func113 ?_; simp (maxSteps := 9999999) only [go_sem, htt, hx, hc2, hc3])); (try ((with_reducible refine And.intro ?_ ?_) <;> (repeat' with_reducible apply And.intro) <;> try exact sd)); (try first | refine XK.p hlv ok115 ?_ | refine XK.gp hlv ok115 ?_ | refine XK.p htr ok163 ?_ | refine XK.gp htr ok163 ?_ | refine XK.gs (DB false) ?_ | refine XK.gs (DI .i64 0) ?_))
    all_goals exact ret _ _ (by rfl)
 ·obtain ⟨T, hT, hTe, htt⟩ := lab_at h2 ht0 ht1
  have hsv := hsto (.mk 2 t (.mk ik iv iks) (.mk vk vv vks) cc b e) (sv (by decide)) (fun h => si rfl) c hc
  have hfl := flowsI _ T (hst (.inr rfl)) hT
  have he : flowR vs ar (.mk 2 t (.mk ik iv iks) (.mk vk vv vks) cc b e) c = if subL (storedN vs ar (.mk 2 t (.mk ik iv iks) (.mk vk vv vks) cc b e) c) (nth ar t).toNat = true then 0 else 1 := rfl
  rw [he, hTe] at ret
  simp only at hsv
  generalize storedN vs ar (.mk 2 t (.mk ik iv iks) (.mk vk vv vks) cc b e) c = st at *
  generalize subL st T = sub at *
  rcases hx : vs[t.toNat]? with _ | y <;> cases sub
  all_goals
   refine dcZ Tryz.func113 ?_
   simp (maxSteps := 9999999) only [go_sem]
   iterate 12 ((try (refine drvZ Tryz.func113 ?_; simp (maxSteps := 9999999) only [go_sem, htt, hx])); (try ((with_reducible refine And.intro ?_ ?_) <;> (repeat' with_reducible apply And.intro) <;> try exact sd)); (try first | refine XK.p hsv ok162 ?_ | refine XK.gp hsv ok162 ?_ | refine XK.p hfl ok161 ?_ | refine XK.gp hfl ok161 ?_ | refine XK.gs (DB false) ?_ | refine XK.gs (DI .i64 0) ?_))
  all_goals exact ret _ _ (by rfl)
 ·rcases hx : vs[t.toNat]? with _ | y <;> rcases hy : ar[t.toNat]? with _ | y2
  all_goals
   refine dcZ Tryz.func113 ?_
   simp (maxSteps := 9999999) only [go_sem]
   iterate 12 ((try (refine drvZ Tryz.func113 ?_; simp (maxSteps := 9999999) only [go_sem, hx, hy])); (try ((with_reducible refine And.intro ?_ ?_) <;> (repeat' with_reducible apply And.intro) <;> try exact sd)); (try first | refine XK.gs (DB false) ?_ | refine XK.gs (DI .i64 0) ?_))
  all_goals exact ret _ _ (by rfl)
 ·rcases hx : vs[t.toNat]? with _ | y <;> rcases hy : ar[t.toNat]? with _ | y2
  all_goals
   refine dcZ Tryz.func113 ?_
   simp (maxSteps := 9999999) only [go_sem]
   iterate 12 ((try (refine drvZ Tryz.func113 ?_; simp (maxSteps := 9999999) only [go_sem, hx, hy])); (try ((with_reducible refine And.intro ?_ ?_) <;> (repeat' with_reducible apply And.intro) <;> try exact sd)); (try first | refine XK.gs (DB false) ?_ | refine XK.gs (DI .i64 0) ?_))
  all_goals exact ret _ _ (by rfl)
end Go.Proofs.YtpphageokplgoaaGreat.CtR
namespace Go.Proofs.YtpphageokplgoaaGreat.CtR
open Go Go.CT CtF
theorem hhp_each44 {hp : Hp} {r : Nat → Nat} {h0 h1 h2 h3 : Option (List C)} (e0 : hp 0 = some (h0.map (renCs r))) (e1 : hp 1 = some (h1.map (renCs r))) (e2 : hp 2 = some (h2.map (renCs r))) (e3 : hp 3 = some (h3.map (renCs r))) :
 ∀ i' x, [h0, h1, h2, h3][i']? = some x → hp ([0, 1, 2, 3].getD i' 0) = some (x.map (renCs r)) := by
 intro i' x hx
 match i', hx with
 | 0, hx => simp only [List.getElem?_cons_zero, List.getElem?_cons_succ, Option.some.injEq] at hx; subst hx; exact e0
 | 1, hx => simp only [List.getElem?_cons_zero, List.getElem?_cons_succ, Option.some.injEq] at hx; subst hx; exact e1
 | 2, hx => simp only [List.getElem?_cons_zero, List.getElem?_cons_succ, Option.some.injEq] at hx; subst hx; exact e2
 | 3, hx => simp only [List.getElem?_cons_zero, List.getElem?_cons_succ, Option.some.injEq] at hx; subst hx; exact e3
 | i' + 4, hx => simp at hx
theorem rkid_each44 (b : Nat) : ∀ k, k < 4 → rk0 [0, 1, 2, 3] b k = k := fun k hk => by
 match k, hk with
 | 0, _ => rfl
 | 1, _ => rfl
 | 2, _ => rfl
 | 3, _ => rfl
theorem rkey_each44 (b : Nat) : ∀ k, k < 4 → rkey [0, 1, 2, 3] b k = k := fun k hk => by
 match k, hk with
 | 0, _ => rfl
 | 1, _ => rfl
 | 2, _ => rfl
 | 3, _ => rfl
theorem each44 {X : Type} (p : Pg) (hl : p.vars.length ≤ mx) (hl2 : p.arrays.length ≤ mx) (h1 : lab3 p.vars) (h2 : lab3 p.arrays) (F : FuncId) (hF : fnOK Tryz.prog F = true)
 (b0 b1 b2 b3 : X → List C) (hr0 : ∀ x r, (∀ k, k < 4 → r k = k) → renCs r (b0 x) = b0 x) (hr1 : ∀ x r, (∀ k, k < 4 → r k = k) → renCs r (b1 x) = b1 x) (hr2 : ∀ x r, (∀ k, k < 4 → r k = k) → renCs r (b2 x) = b2 x) (hr3 : ∀ x r, (∀ k, k < 4 → r k = k) → renCs r (b3 x) = b3 x) (hc0 : ∀ x hT hS fz, (∀ k, k < 4 → hT k ≠ none) → CMs hT some hS fz (b0 x) (b0 x)) (hc1 : ∀ x hT hS fz, (∀ k, k < 4 → hT k ≠ none) → CMs hT some hS fz (b1 x) (b1 x)) (hc2 : ∀ x hT hS fz, (∀ k, k < 4 → hT k ≠ none) → CMs hT some hS fz (b2 x) (b2 x)) (hc3 : ∀ x hT hS fz, (∀ k, k < 4 → hT k ≠ none) → CMs hT some hS fz (b3 x) (b3 x)) (step : X → St1 → Nat → X) (Inv : Nat → X → Prop)
 (hcl : ∀ d x s (c q : Nat), q < 1000 → Inv q x → c ≤ 3 → stmtOK p d s = true → Inv (q + 1) (step x s c) ∧ DC Tryz.prog F [.agg s.cells, DI .i64 c, .c (.ptr 0 0), .c (.ptr 1 0), .c (.ptr 2 0), .c (.ptr 3 0)] [some (b0 x), some (b1 x), some (b2 x), some (b3 x)] (fun r h => r = .tup [] ∧ h = [some (b0 (step x s c)), some (b1 (step x s c)), some (b2 (step x s c)), some (b3 (step x s c))])) :
 ∀ (d : Nat) (l : List St1) (x : X) (c q : Nat), Inv q x → c ≤ 3 → (∀ s ∈ l, stmtOK p d s = true) → q + lsize d l ≤ 1000 →
  Inv (q + lsize d l) (eachF p.vars p.arrays step d c x l) ∧ DC Tryz.prog 68 [.agg p.cells, .c (.isl 11 (St1.cellsL l)), DI .i64 c, .c (.clo F [.ptr 0 0, .ptr 1 0, .ptr 2 0, .ptr 3 0])] [some (b0 x), some (b1 x), some (b2 x), some (b3 x)] (fun r h => r = .tup [] ∧ h = [some (b0 (eachF p.vars p.arrays step d c x l)), some (b1 (eachF p.vars p.arrays step d c x l)), some (b2 (eachF p.vars p.arrays step d c x l)), some (b3 (eachF p.vars p.arrays step d c x l))]) := by
 have hmx := mx_eq
 intro d
 induction d with
 | zero =>
  intro l x c q hx hc hok hsz
  have hnil : l = [] := by
   cases l with
   | nil => rfl
   | cons a r => have := hok a (by simp); simp [stmtOK] at this
  subst hnil
  refine ⟨by rw [lsize_zero]; exact hx, ?_⟩
  obtain ⟨vs, ar, bd⟩ := p
  simp only [eachF]
  generalize hR : (fun (r : D) (h : List (Option (List C))) => r = .tup [] ∧ h = [some (b0 x), some (b1 x), some (b2 x), some (b3 x)]) = R
  refine dcZ Tryz.func68 ?_
  simp (maxSteps := 9999999) only [go_sem, St1.cellsL, Int.natCast_zero]
  refine Go.loop ?_
  have hz : ((0 : Int) < 0) = False := eq_false (by omega)
  refine drvL Tryz.func68 ?_
  simp (maxSteps := 9999999) only [go_sem, St1.cellsL, Int.natCast_zero, hz]
  refine RetOb.ofQ some [] (.tup []) [some (b0 x), some (b1 x), some (b2 x), some (b3 x)] ?_ (by rw [← hR]; exact ⟨rfl, rfl⟩) (by simp)
  simp [enumL, DMs, DM, HpOK, LowOK, hOf, upd, hpL]
  refine ⟨hc0 _ _ _ _ ?_, hc1 _ _ _ _ ?_, hc2 _ _ _ _ ?_, hc3 _ _ _ _ ?_⟩
  all_goals (intro k hk; rcases (show k = 0 ∨ k = 1 ∨ k = 2 ∨ k = 3 by omega) with rfl | rfl | rfl | rfl <;> simp [upd])
 | succ d ih =>
  intro l x c q hx hc hok hsz
  have hsub := lsize_subs d l
  have hll : l.length ≤ 1000 := by omega
  let f : X → St1 → X := fun x s => eachF p.vars p.arrays step d (ctxI p.vars p.arrays s c) (eachF p.vars p.arrays step d (ctxI p.vars p.arrays s c) (step x s c) s.body) s.els
  have hfold : ∀ i s, l[i]? = some s → (l.take (i + 1)).foldl f x = f ((l.take i).foldl f x) s := fun i s h => by
   rw [List.take_add_one, h]; simp
  have hres : eachF p.vars p.arrays step (d + 1) c x l = l.foldl f x := rfl
  have hf : ∀ (x : X) (s : St1), f x s = eachF p.vars p.arrays step d (ctxI p.vars p.arrays s c) (eachF p.vars p.arrays step d (ctxI p.vars p.arrays s c) (step x s c) s.body) s.els := fun _ _ => rfl
  clear_value f
  have hlabI := fun e => labelI p hl hl2 h1 h2 5 e
  have hlabL := fun e => labN_le h1 h2 5 e
  have e0 : ∀ y b, renCs (rkey [0, 1, 2, 3] b) (b0 y) = b0 y := fun y b => hr0 y _ (rkey_each44 b)
  have e1 : ∀ y b, renCs (rkey [0, 1, 2, 3] b) (b1 y) = b1 y := fun y b => hr1 y _ (rkey_each44 b)
  have e2 : ∀ y b, renCs (rkey [0, 1, 2, 3] b) (b2 y) = b2 y := fun y b => hr2 y _ (rkey_each44 b)
  have e3 : ∀ y b, renCs (rkey [0, 1, 2, 3] b) (b3 y) = b3 y := fun y b => hr3 y _ (rkey_each44 b)
  generalize hR : (fun (r : D) (h : List (Option (List C))) => r = .tup [] ∧ h = [some (b0 (eachF p.vars p.arrays step (d + 1) c x l)), some (b1 (eachF p.vars p.arrays step (d + 1) c x l)), some (b2 (eachF p.vars p.arrays step (d + 1) c x l)), some (b3 (eachF p.vars p.arrays step (d + 1) c x l))]) = R
  rw [hres] at hR
  rw [hres]
  have hK : ∀ (i : Nat) (s : St1), l[i]? = some s → q + tsum (tsize (d + 1)) l i + 1 + lsize d s.body + lsize d s.els ≤ 1000 ∧ tsum (tsize (d + 1)) l (i + 1) = tsum (tsize (d + 1)) l i + 1 + lsize d s.body + lsize d s.els := fun i s hi => by
   have a1 := tsum_succ (tsize (d + 1)) l i s hi
   have a2 := tsum_le (tsize (d + 1)) l (i + 1)
   have a3 := tsize_subs d s
   have a4 : lsize (d + 1) l = (l.map (tsize (d + 1))).sum := rfl
   simp only [subs] at a3
   omega
  have hround : ∀ (i : Nat) (s : St1), l[i]? = some s → ∀ y, Inv (q + tsum (tsize (d + 1)) l i) y → ctxI p.vars p.arrays s c ≤ 3 ∧
   (Inv (q + tsum (tsize (d + 1)) l i + 1) (step y s c) ∧ DC Tryz.prog F [.agg s.cells, DI .i64 c, .c (.ptr 0 0), .c (.ptr 1 0), .c (.ptr 2 0), .c (.ptr 3 0)] [some (b0 y), some (b1 y), some (b2 y), some (b3 y)] (fun r h => r = .tup [] ∧ h = [some (b0 (step y s c)), some (b1 (step y s c)), some (b2 (step y s c)), some (b3 (step y s c))])) := fun i s hi y hy => by
   have hmem := List.mem_of_getElem? hi
   have := (hK i s hi).1
   refine ⟨?_, hcl (d + 1) y s c _ (by omega) hy hc (hok s hmem)⟩
   unfold ctxI
   split
   ·exact or3 hc (hlabL _)
   ·exact hc
  have hsok : ∀ (i : Nat) (s : St1), l[i]? = some s → (∀ t ∈ s.body, stmtOK p d t = true) ∧ (∀ t ∈ s.els, stmtOK p d t = true) ∧ (s.kind = 3 → shape p 5 s.value = true) := fun i s hi => by
   have hs := hok s (List.mem_of_getElem? hi)
   obtain ⟨k, t, ix, v, cc, b, e⟩ := s
   obtain ⟨g1, g2, g3⟩ := stmtOK_succ hs
   refine ⟨g2, g3, fun hk => ?_⟩
   have hk : k = 3 := hk
   subst hk
   rcases head_kind g1 with h | h | h | h
   ·omega
   ·omega
   ·exact (right_shape h.2).1
   ·omega
  have hinv : ∀ i, i ≤ l.length → Inv (q + tsum (tsize (d + 1)) l i) ((l.take i).foldl f x) := fun i => by
   induction i with
   | zero => intro _; simpa [tsum] using hx
   | succ i ihi =>
    intro hi
    have hs : l[i]? = some l[i] := by simp [show i < l.length from hi]
    rw [hfold i _ hs, hf, (hK i _ hs).2]
    have hk := (hK i _ hs).1
    have g := hround i _ hs _ (ihi (by omega))
    have g2 := hsok i _ hs
    have b1 := (ih _ _ _ _ g.2.1 g.1 g2.1 (by omega)).1
    have b2 := (ih _ _ _ _ b1 g.1 g2.2.1 (by omega)).1
    have e : q + (tsum (tsize (d + 1)) l i + 1 + lsize d l[i].body + lsize d l[i].els) = q + tsum (tsize (d + 1)) l i + 1 + lsize d l[i].body + lsize d l[i].els := by omega
    rw [e]
    exact b2
  refine ⟨by have := hinv l.length (Nat.le_refl _); rw [List.take_length] at this; rw [tsum_all _ _ (Nat.le_refl _)] at this; exact this, ?_⟩
  obtain ⟨vs, ar, bd⟩ := p
  have h1 : lab3 vs := h1
  have h2 : lab3 ar := h2
  refine dcZ Tryz.func68 ?_
  simp (maxSteps := 9999999) only [go_sem]
  refine Go.loopQ (fun i : Nat => [(2, DI .i64 c), (3, .c (.clo F [.ptr 0 0, .ptr 1 0, .ptr 2 0, .ptr 3 0])), (4, .c (.ptr 4 0)), (11, .c (.isl 11 (St1.cellsL l))), (12, DI .i64 l.length), (13, DI .i64 i)])
   (fun i => [(0, some (b0 ((l.take i).foldl f x))), (1, some (b1 ((l.take i).foldl f x))), (2, some (b2 ((l.take i).foldl f x))), (3, some (b3 ((l.take i).foldl f x))), (4, some (Pg.cells ⟨vs, ar, bd⟩))]) 4096 (fun i => i ≤ l.length) (fun i => l.length - i) ?_ 0 some [] _ (Nat.zero_le _) ?_
  ·intro i hi again
   have hIi := hinv i hi
   rcases Nat.lt_or_ge i l.length with hlt | hge
   ·obtain ⟨⟨k, t, ⟨ik, iv, iks⟩, ⟨vk, vv, vks⟩, cc, b, e⟩, hs⟩ : ∃ s, l[i]? = some s := ⟨l[i], by simp [hlt]⟩
    have hfi := hfold i _ hs
    obtain ⟨q1, q4, q5⟩ := hround i _ hs _ hIi
    obtain ⟨q6, q7, q8⟩ := hsok i _ hs
    have hk := (hK i _ hs).1
    simp only [St1.body, St1.els] at hk
    have ihb := ih b _ _ _ q4 q1 q6 (by omega)
    have ihe := ih e _ _ _ ihb.1 q1 q7 (by omega)
    have ihb2 := ihb.2
    have ihe2 := ihe.2
    have hll2 := hlabL (.mk vk vv vks)
    rw [hf] at hfi
    generalize (l.take i).foldl f x = y at *
    refine drvL Tryz.func68 ?_
    simp (maxSteps := 9999999) only [go_sem, hs, hlt]
    iterate 2 ((try (refine drvZ Tryz.func68 ?_; simp (maxSteps := 9999999) only [go_sem, hs, hlt])); (try ((with_reducible refine And.intro ?_ ?_) <;> (repeat' with_reducible apply And.intro) <;> try exact sd)))
    refine XK.callG [0, 1, 2, 3] q5 hF (hhp_each44 (by rw [Option.map_some, hr0 _ _ (rkid_each44 _)]; rfl) (by rw [Option.map_some, hr1 _ _ (rkid_each44 _)]; rfl) (by rw [Option.map_some, hr2 _ _ (rkid_each44 _)]; rfl) (by rw [Option.map_some, hr3 _ _ (rkid_each44 _)]; rfl)) (hbT ()) (fun d h' ⟨_, e⟩ => by subst e; simp) ?_
    rintro _ _ ⟨rfl, rfl⟩ _
    by_cases hk : k = 3
    ·subst hk
     have hlb := hlabI (.mk vk vv vks) (q8 rfl)
     have hcx : ctxI vs ar (.mk 3 t (.mk ik iv iks) (.mk vk vv vks) cc b e) c = c ||| labN vs ar 5 (.mk vk vv vks) := by simp [ctxI, St1.kind, St1.value]
     iterate 4 ((try (refine drvZ Tryz.func68 ?_; simp (maxSteps := 9999999) only [go_sem, hs, hlt, e0, e1, e2, e3])); (try ((with_reducible refine And.intro ?_ ?_) <;> (repeat' with_reducible apply And.intro) <;> try exact sd)))
     refine XK.plain hlb ok115 ?_ (hbT ())
     rw [hcx] at ihb2 ihe2 hfi q1
     generalize labN vs ar 5 (.mk vk vv vks) = lb at *
     iterate 4 ((try (refine drvZ Tryz.func68 ?_; simp (maxSteps := 9999999) only [go_sem, hs, hlt, e0, e1, e2, e3])); (try ((with_reducible refine And.intro ?_ ?_) <;> (repeat' with_reducible apply And.intro) <;> try exact sd)))
     refine XK.callG [0, 1, 2, 3] ihb2 ok68 (hhp_each44 (by rw [Option.map_some, hr0 _ _ (rkid_each44 _)]; rfl) (by rw [Option.map_some, hr1 _ _ (rkid_each44 _)]; rfl) (by rw [Option.map_some, hr2 _ _ (rkid_each44 _)]; rfl) (by rw [Option.map_some, hr3 _ _ (rkid_each44 _)]; rfl)) (hbT ()) (fun d h' ⟨_, e⟩ => by subst e; simp) ?_
     rintro _ _ ⟨rfl, rfl⟩ _
     iterate 4 ((try (refine drvZ Tryz.func68 ?_; simp (maxSteps := 9999999) only [go_sem, hs, hlt, e0, e1, e2, e3])); (try ((with_reducible refine And.intro ?_ ?_) <;> (repeat' with_reducible apply And.intro) <;> try exact sd)))
     refine XK.callG [0, 1, 2, 3] ihe2 ok68 (hhp_each44 (by rw [Option.map_some, hr0 _ _ (rkid_each44 _)]; rfl) (by rw [Option.map_some, hr1 _ _ (rkid_each44 _)]; rfl) (by rw [Option.map_some, hr2 _ _ (rkid_each44 _)]; rfl) (by rw [Option.map_some, hr3 _ _ (rkid_each44 _)]; rfl)) (hbT ()) (fun d h' ⟨_, e⟩ => by subst e; simp) ?_
     rintro _ _ ⟨rfl, rfl⟩ _
     iterate 4 ((try (refine drvZ Tryz.func68 ?_; simp (maxSteps := 9999999) only [go_sem, hs, hlt, e0, e1, e2, e3])); (try ((with_reducible refine And.intro ?_ ?_) <;> (repeat' with_reducible apply And.intro) <;> try exact sd)))
     refine again (i + 1) some [] _ hlt (by omega) ?_
     simp (maxSteps := 9999999) only [go_sem, TmOK, DM, DMs, CM, CMs, forall_eq, exists_eq_left, Mq, HpOK, LowOK, hfi]
     simp
     refine ⟨hc0 _ _ _ _ ?_, hc1 _ _ _ _ ?_, hc2 _ _ _ _ ?_, hc3 _ _ _ _ ?_⟩
     all_goals (intro k hk; rcases (show k = 0 ∨ k = 1 ∨ k = 2 ∨ k = 3 by omega) with rfl | rfl | rfl | rfl <;> simp [upd])
    ·have hkb : (k == 3) = false := by simp [hk]
     have hcx : ctxI vs ar (.mk k t (.mk ik iv iks) (.mk vk vv vks) cc b e) c = c := by simp [ctxI, St1.kind, hk]
     rw [hcx] at ihb2 ihe2 hfi
     iterate 4 ((try (refine drvZ Tryz.func68 ?_; simp (maxSteps := 9999999) only [go_sem, hs, hlt, e0, e1, e2, e3, hk, hkb])); (try ((with_reducible refine And.intro ?_ ?_) <;> (repeat' with_reducible apply And.intro) <;> try exact sd)))
     refine XK.callG [0, 1, 2, 3] ihb2 ok68 (hhp_each44 (by rw [Option.map_some, hr0 _ _ (rkid_each44 _)]; rfl) (by rw [Option.map_some, hr1 _ _ (rkid_each44 _)]; rfl) (by rw [Option.map_some, hr2 _ _ (rkid_each44 _)]; rfl) (by rw [Option.map_some, hr3 _ _ (rkid_each44 _)]; rfl)) (hbT ()) (fun d h' ⟨_, e⟩ => by subst e; simp) ?_
     rintro _ _ ⟨rfl, rfl⟩ _
     iterate 4 ((try (refine drvZ Tryz.func68 ?_; simp (maxSteps := 9999999) only [go_sem, hs, hlt, e0, e1, e2, e3])); (try ((with_reducible refine And.intro ?_ ?_) <;> (repeat' with_reducible apply And.intro) <;> try exact sd)))
     refine XK.callG [0, 1, 2, 3] ihe2 ok68 (hhp_each44 (by rw [Option.map_some, hr0 _ _ (rkid_each44 _)]; rfl) (by rw [Option.map_some, hr1 _ _ (rkid_each44 _)]; rfl) (by rw [Option.map_some, hr2 _ _ (rkid_each44 _)]; rfl) (by rw [Option.map_some, hr3 _ _ (rkid_each44 _)]; rfl)) (hbT ()) (fun d h' ⟨_, e⟩ => by subst e; simp) ?_
     rintro _ _ ⟨rfl, rfl⟩ _
     iterate 4 ((try (refine drvZ Tryz.func68 ?_; simp (maxSteps := 9999999) only [go_sem, hs, hlt, e0, e1, e2, e3])); (try ((with_reducible refine And.intro ?_ ?_) <;> (repeat' with_reducible apply And.intro) <;> try exact sd)))
     refine again (i + 1) some [] _ hlt (by omega) ?_
     simp (maxSteps := 9999999) only [go_sem, TmOK, DM, DMs, CM, CMs, forall_eq, exists_eq_left, Mq, HpOK, LowOK, hfi]
     simp
     refine ⟨hc0 _ _ _ _ ?_, hc1 _ _ _ _ ?_, hc2 _ _ _ _ ?_, hc3 _ _ _ _ ?_⟩
     all_goals (intro k hk; rcases (show k = 0 ∨ k = 1 ∨ k = 2 ∨ k = 3 by omega) with rfl | rfl | rfl | rfl <;> simp [upd])
   ·have hn : ¬ i < l.length := by omega
    obtain rfl : i = l.length := by omega
    refine drvL Tryz.func68 ?_
    simp (maxSteps := 9999999) only [go_sem, hn, List.take_length]
    iterate 2 ((try (refine drvZ Tryz.func68 ?_; simp (maxSteps := 9999999) only [go_sem, hn, List.take_length])); (try ((with_reducible refine And.intro ?_ ?_) <;> (repeat' with_reducible apply And.intro) <;> try exact sd)))
    refine RetOb.ofQ some [] (.tup []) [some (b0 (l.foldl f x)), some (b1 (l.foldl f x)), some (b2 (l.foldl f x)), some (b3 (l.foldl f x))] ?_ (by rw [← hR]; exact ⟨rfl, rfl⟩) (by simp)
    simp [enumL, DMs, DM, HpOK, LowOK, hOf, upd, hpL]
    refine ⟨hc0 _ _ _ _ ?_, hc1 _ _ _ _ ?_, hc2 _ _ _ _ ?_, hc3 _ _ _ _ ?_⟩
    all_goals (intro k hk; rcases (show k = 0 ∨ k = 1 ∨ k = 2 ∨ k = 3 by omega) with rfl | rfl | rfl | rfl <;> simp [upd])
  ·simp (maxSteps := 9999999) only [go_sem, TmOK, DM, DMs, CM, CMs, forall_eq, exists_eq_left, Mq, HpOK, LowOK, List.take_zero, List.foldl_nil]
   simp
   refine ⟨hc0 _ _ _ _ ?_, hc1 _ _ _ _ ?_, hc2 _ _ _ _ ?_, hc3 _ _ _ _ ?_⟩
   all_goals (intro k hk; rcases (show k = 0 ∨ k = 1 ∨ k = 2 ∨ k = 3 by omega) with rfl | rfl | rfl | rfl <;> simp [upd])
end Go.Proofs.YtpphageokplgoaaGreat.CtR
namespace Go.Proofs.YtpphageokplgoaaGreat.CtR
open Go Go.CT CtF
theorem first1 (p : Pg) (G : FuncId) (hG : fnOK Tryz.prog G = true) (res : St1 → Nat → Int) (x : Fst) (hx : 0 ≤ x.n ∧ x.n < 1000) (s : St1) (c : Nat)
 (hres : DC Tryz.prog G [.agg p.cells, .agg s.cells, DI .i64 c] [] (fun r h => r = DI .i64 (res s c) ∧ h = [])) :
 DC Tryz.prog 133 [.agg s.cells, DI .i64 c, .c (.ptr 0 0), .c (.ptr 1 0), .c (.ptr 2 0), .c (.ptr 3 0)] [some [I64 x.code], some [.met G p.cells], some [I64 x.n], some [I64 x.at_]]
  (fun r h => r = .tup [] ∧ h = [some [I64 (fstStep res x s c).code], some [.met G p.cells], some [I64 (fstStep res x s c).n], some [I64 (fstStep res x s c).at_]]) := by
 have h1 : x.code = 0 → fstStep res x s c = ⟨res s c, if res s c ≠ 0 then x.n else x.at_, x.n + 1⟩ := fun h => by unfold fstStep; rw [if_pos h]
 have h2 : x.code ≠ 0 → fstStep res x s c = ⟨x.code, x.at_, x.n + 1⟩ := fun h => by unfold fstStep; rw [if_neg h]
 generalize fstStep res x s c = y at *
 generalize res s c = ro at *
 obtain ⟨code, at_, n⟩ := x
 simp only at h1 h2 hx
 obtain ⟨vs, ar, bd⟩ := p
 obtain ⟨k, t, ⟨ik, iv, iks⟩, ⟨vk, vv, vks⟩, cc, b, e⟩ := s
 have fin : ∀ (a b c' : Int) (hp : Hp), y = ⟨a, b, c'⟩ → hp 0 = some (some [I64 a]) → hp 1 = some (some [.met G [isI vs, isI ar, .isl 11 (St1.cellsL bd)]]) → hp 2 = some (some [I64 c']) → hp 3 = some (some [I64 b]) →
  RetOb 4 (fun r h => r = .tup [] ∧ h = [some [I64 y.code], some [.met G (Pg.cells ⟨vs, ar, bd⟩)], some [I64 y.n], some [I64 y.at_]]) (.tup []) hp := fun a b c' hp hy g0 g1 g2 g3 => by
  subst hy
  refine RetOb.ofQ some [] (.tup []) _ ?_ ⟨rfl, rfl⟩ (by simp)
  simp [enumL, DMs, DM, HpOK, LowOK, hOf, upd, CM, CMs, g0, g1, g2, g3, Pg.cells]
 generalize hR : (fun (r : D) (h : List (Option (List C))) => r = .tup [] ∧ h = [some [I64 y.code], some [.met G (Pg.cells ⟨vs, ar, bd⟩)], some [I64 y.n], some [I64 y.at_]]) = R at fin ⊢
 by_cases hc : code = 0
 ·subst hc
  have h1 := h1 rfl
  by_cases hr : ro = 0
  ·subst hr
   refine dcZ Tryz.func133 ?_
   simp (maxSteps := 9999999) only [go_sem]
   iterate 8 ((try (refine drvZ Tryz.func133 ?_; simp (maxSteps := 9999999) only [go_sem, bne_self_eq_false])); (try ((with_reducible refine And.intro ?_ ?_) <;> (repeat' with_reducible apply And.intro) <;> try exact sd)); (try first | refine XK.p hres hG ?_ | refine XK.gp hres hG ?_))
   exact fin 0 at_ (n + 1) _ (by rw [h1, if_neg (by simp)]) rfl rfl rfl rfl
  ·have g1 : (ro = 0) = False := eq_false hr
   have g2 : (ro != 0) = true := by simp [hr]
   refine dcZ Tryz.func133 ?_
   simp (maxSteps := 9999999) only [go_sem]
   iterate 8 ((try (refine drvZ Tryz.func133 ?_; simp (maxSteps := 9999999) only [go_sem, g1, g2])); (try ((with_reducible refine And.intro ?_ ?_) <;> (repeat' with_reducible apply And.intro) <;> try exact sd)); (try first | refine XK.p hres hG ?_ | refine XK.gp hres hG ?_))
   exact fin ro n (n + 1) _ (by rw [h1, if_pos hr]) rfl rfl rfl rfl
 ·have g1 : (code = 0) = False := eq_false hc
  have g2 : (code == 0) = false := by simp [hc]
  refine dcZ Tryz.func133 ?_
  simp (maxSteps := 9999999) only [go_sem, g1, g2]
  iterate 8 ((try (refine drvZ Tryz.func133 ?_; simp (maxSteps := 9999999) only [go_sem, g1, g2])); (try ((with_reducible refine And.intro ?_ ?_) <;> (repeat' with_reducible apply And.intro) <;> try exact sd)); (try first | refine XK.p hres hG ?_ | refine XK.gp hres hG ?_))
  exact fin code at_ (n + 1) _ (h2 hc) rfl rfl rfl rfl
def fB0 (x : Fst) : List C := [I64 x.code]
def fB2 (x : Fst) : List C := [I64 x.n]
def fB3 (x : Fst) : List C := [I64 x.at_]
def fB1 (G : FuncId) (p : Pg) (_ : Fst) : List C := [.met G p.cells]
def firR (res : List Int → List Int → St1 → Nat → Int) (p : Pg) : Int × Int :=
 ((walkR (res p.vars p.arrays) p.vars p.arrays 5 0 p.body 0).1, if (walkR (res p.vars p.arrays) p.vars p.arrays 5 0 p.body 0).1 = 0 then -1 else (walkR (res p.vars p.arrays) p.vars p.arrays 5 0 p.body 0).2)
theorem chk_fir (res : List Int → List Int → St1 → Nat → Int) {p : Pg} (h : progOK p = true) : chkR res p = firR res p := by unfold chkR; rw [if_pos h]; rfl
theorem firstOf (p : Pg) (hok : progOK p = true) (G : FuncId) (hG : fnOK Tryz.prog G = true) (res : List Int → List Int → St1 → Nat → Int)
 (hres : ∀ d s c, c ≤ 3 → stmtOK p (d + 1) s = true → DC Tryz.prog G [.agg p.cells, .agg s.cells, DI .i64 (c : Nat)] [] (fun r h => r = DI .i64 (res p.vars p.arrays s c) ∧ h = [])) :
 DC Tryz.prog 78 [.agg p.cells, .c (.met G p.cells)] [] (fun r h => r = .tup [DI .i64 (firR res p).1, DI .i64 (firR res p).2] ∧ h = []) := by
 have hmx := mx_eq
 have hlen := prog_len2 hok
 have hlab := labs_of hok
 have hbo := body_of hok
 have hea := (each44 p (by omega) (by omega) hlab.1 hlab.2 133 ok133 fB0 (fB1 G p) fB2 fB3
  (fun x r h => by simp [fB0, renCs, renC]) (fun x r h => by simp [fB1, renCs, renC]) (fun x r h => by simp [fB2, renCs, renC]) (fun x r h => by simp [fB3, renCs, renC])
  (fun x hT hS fz h => by simp [fB0, CMs, CM]) (fun x hT hS fz h => by simp [fB1, CMs, CM]) (fun x hT hS fz h => by simp [fB2, CMs, CM]) (fun x hT hS fz h => by simp [fB3, CMs, CM])
  (fstStep (res p.vars p.arrays)) (fun q x => x.n = q) (fun d x s c q hq hx hc hs => by
   refine ⟨?_, ?_⟩
   ·have : (fstStep (res p.vars p.arrays) x s c).n = x.n + 1 := by unfold fstStep; split <;> rfl
    rw [this, hx]; push_cast; rfl
   ·cases d with
    | zero => simp [stmtOK] at hs
    | succ d => exact first1 p G hG (res p.vars p.arrays) x (by omega) s c (hres d s c hc hs)) 5 p.body ⟨0, -1, 0⟩ 0 0 rfl (by decide) hbo.1 (by have := hbo.2; omega)).2
 obtain ⟨w1, w2, w3⟩ := each_walk (res p.vars p.arrays) p.vars p.arrays 5 0 p.body ⟨0, -1, 0⟩
 obtain ⟨w4, w5, w6⟩ := w3 rfl
 have hfi : firR res p = ((eachF p.vars p.arrays (fstStep (res p.vars p.arrays)) 5 0 ⟨0, -1, 0⟩ p.body).code, (eachF p.vars p.arrays (fstStep (res p.vars p.arrays)) 5 0 ⟨0, -1, 0⟩ p.body).at_) := by
  rw [w4, w5]; rfl
 rw [hfi]
 generalize eachF p.vars p.arrays (fstStep (res p.vars p.arrays)) 5 0 ⟨0, -1, 0⟩ p.body = y at *
 obtain ⟨code, at_, n⟩ := y
 obtain ⟨vs, ar, bd⟩ := p
 simp only [fB0, fB1, fB2, fB3] at hea ⊢
 generalize hR : (fun (r : D) (h : List (Option (List C))) => r = .tup [DI .i64 code, DI .i64 at_] ∧ h = []) = R
 refine dcZ Tryz.func78 ?_
 simp (maxSteps := 9999999) only [go_sem]
 iterate 3 ((try (refine drvZ Tryz.func78 ?_; simp (maxSteps := 9999999) only [go_sem])); (try ((with_reducible refine And.intro ?_ ?_) <;> (repeat' with_reducible apply And.intro) <;> try exact sd)))
 refine XK.callG [256, 64, 384, 320] hea ok68 (hhpG (by simp [HH, upd, renCs, renC, Pg.cells, isI])) (hbT ()) (fun d h' ⟨_, e⟩ => by subst e; simp) ?_
 rintro _ _ ⟨rfl, rfl⟩ _
 iterate 4 ((try (refine drvZ Tryz.func78 ?_; simp (maxSteps := 9999999) only [go_sem])); (try ((with_reducible refine And.intro ?_ ?_) <;> (repeat' with_reducible apply And.intro) <;> try exact sd)))
 subst hR
 exact RetOb.two ⟨rfl, rfl⟩
end Go.Proofs.YtpphageokplgoaaGreat.CtR
namespace Go.Proofs.YtpphageokplgoaaGreat.CtR
open Go Go.CT CtF
theorem checkFlowI (p : Pg) (hl : p.vars.length ≤ mx) (hl2 : p.arrays.length ≤ mx) : DC Tryz.prog 65 [.agg p.cells] [] (fun r h => r = .tup [DI .i64 (chkR flowR p).1, DI .i64 (chkR flowR p).2] ∧ h = []) := by
 have hmx := mx_eq
 have hv := programValidI p hl hl2
 have ret : ∀ (x : Int × Int) (hp : Hp), x = chkR flowR p → RetOb 0 (fun r h => r = .tup [DI .i64 (chkR flowR p).1, DI .i64 (chkR flowR p).2] ∧ h = []) (.tup [DI .i64 x.1, DI .i64 x.2]) hp := fun x hp h => by
  subst h
  exact RetOb.two ⟨rfl, rfl⟩
 generalize hR : (fun (r : D) (h : List (Option (List C))) => r = .tup [DI .i64 (chkR flowR p).1, DI .i64 (chkR flowR p).2] ∧ h = []) = R at ret ⊢
 clear hR
 cases hq : progOK p with
 | false =>
  rw [hq] at hv
  have he : chkR flowR p = (5, -1) := by unfold chkR; rw [hq]; rfl
  obtain ⟨vs, ar, bd⟩ := p
  refine dcZ Tryz.func65 ?_
  simp (maxSteps := 9999999) only [go_sem]
  iterate 4 ((try (refine drvZ Tryz.func65 ?_; simp (maxSteps := 9999999) only [go_sem])); (try ((with_reducible refine And.intro ?_ ?_) <;> (repeat' with_reducible apply And.intro) <;> try exact sd)); (try first | refine XK.p hv ok20 ?_ | refine XK.gp hv ok20 ?_))
  exact ret (5, -1) _ he.symm
 | true =>
  rw [hq] at hv
  have hlab := labs_of hq
  have hf := firstOf p hq 113 ok113 flowR (fun d s c hc hs => flowI p hl hl2 hlab.1 hlab.2 d s hs c hc)
  have he := chk_fir flowR hq
  generalize firR flowR p = x at *
  obtain ⟨vs, ar, bd⟩ := p
  refine dcZ Tryz.func65 ?_
  simp (maxSteps := 9999999) only [go_sem]
  iterate 6 ((try (refine drvZ Tryz.func65 ?_; simp (maxSteps := 9999999) only [go_sem])); (try ((with_reducible refine And.intro ?_ ?_) <;> (repeat' with_reducible apply And.intro) <;> try exact sd)); (try first | refine XK.p hv ok20 ?_ | refine XK.gp hv ok20 ?_ | refine XK.p hf ok78 ?_ | refine XK.gp hf ok78 ?_))
  exact ret x _ he.symm
def rfB (x : Bool) : List C := [.v (.bool x)]
def rfStep (x : Bool) (s : St1) (_ : Nat) : Bool := x || s.kind == 5
theorem eachF_free (vs ar : List Int) : ∀ (d c : Nat) (l : List St1) (x : Bool), eachF vs ar rfStep d c x l = (x || !freeL d l)
 | 0, c, l, x => by simp [eachF, freeL]
 | d + 1, c, l, x => by
  have key : ∀ (l : List St1) (x : Bool), l.foldl (fun x s => eachF vs ar rfStep d (ctxI vs ar s c) (eachF vs ar rfStep d (ctxI vs ar s c) (rfStep x s c) s.body) s.els) x = (x || !freeL (d + 1) l) := by
   intro l
   induction l with
   | nil => intro x; simp [freeL]
   | cons a r ih =>
    intro x
    rw [List.foldl_cons, ih, eachF_free vs ar d, eachF_free vs ar d]
    simp only [rfStep, freeL, List.all_cons]
    cases x <;> cases hk : a.kind == 5 <;> cases freeL d a.body <;> cases freeL d a.els <;> simp_all [bne]
  exact key l x
def freeP (p : Pg) : Bool := progOK p && freeL 5 p.body
theorem free1 (x : Bool) (s : St1) (c : Nat) : DC Tryz.prog 69 [.agg s.cells, DI .i64 c, .c (.ptr 0 0)] [some (rfB x)] (fun r h => r = .tup [] ∧ h = [some (rfB (rfStep x s c))]) := by
 obtain ⟨k, t, ⟨ik, iv, iks⟩, ⟨vk, vv, vks⟩, cc, b, e⟩ := s
 have fin : ∀ (y : Bool) (hp : Hp), y = (x || k == 5) → hp 0 = some (some [.v (.bool y)]) → RetOb 1 (fun r h => r = .tup [] ∧ h = [some [.v (.bool (x || k == 5))]]) (.tup []) hp := fun y hp hy g0 => by
  subst hy
  refine RetOb.ofQ some [] (.tup []) _ ?_ ⟨rfl, rfl⟩ (by simp)
  simp [enumL, DMs, DM, HpOK, LowOK, hOf, upd, CM, CMs, g0]
 have he : rfB (rfStep x (.mk k t (.mk ik iv iks) (.mk vk vv vks) cc b e) c) = [.v (.bool (x || k == 5))] := rfl
 simp only [he]
 simp only [rfB]
 generalize hR : (fun (r : D) (h : List (Option (List C))) => r = .tup [] ∧ h = [some [.v (.bool (x || k == 5))]]) = R at fin ⊢
 cases x
 all_goals
  refine dcZ Tryz.func69 ?_
  simp (maxSteps := 9999999) only [go_sem]
  iterate 3 ((try (refine drvZ Tryz.func69 ?_; simp (maxSteps := 9999999) only [go_sem])); (try ((with_reducible refine And.intro ?_ ?_) <;> (repeat' with_reducible apply And.intro) <;> try exact sd)))
  refine fin _ _ ?_ rfl
  simp
theorem releaseFree (p : Pg) (hl : p.vars.length ≤ mx) (hl2 : p.arrays.length ≤ mx) : DC Tryz.prog 29 [.agg p.cells] [] (fun r h => r = DB (freeP p) ∧ h = []) := by
 have hmx := mx_eq
 have hv := programValidI p hl hl2
 generalize hR : (fun (r : D) (h : List (Option (List C))) => r = DB (freeP p) ∧ h = []) = R
 cases hq : progOK p with
 | false =>
  rw [hq] at hv
  have hw : freeP p = false := by unfold freeP; rw [hq]; rfl
  rw [hw] at hR
  obtain ⟨vs, ar, bd⟩ := p
  refine dcZ Tryz.func29 ?_
  simp (maxSteps := 9999999) only [go_sem]
  iterate 3 ((try (refine drvZ Tryz.func29 ?_; simp (maxSteps := 9999999) only [go_sem])); (try ((with_reducible refine And.intro ?_ ?_) <;> (repeat' with_reducible apply And.intro) <;> try exact sd)); (try first | refine XK.p hv ok20 ?_ | refine XK.gp hv ok20 ?_))
  subst hR
  exact RetOb.plain (d := DB _) ⟨rfl, rfl⟩ rfl
 | true =>
  rw [hq] at hv
  have hlab := labs_of hq
  have hbo := body_of hq
  have hea := (each1 p hl hl2 hlab.1 hlab.2 69 ok69 rfB (fun x r h => by simp [rfB, renCs, renC]) (fun x hT hS fz h => by simp [rfB, CMs, CM]) rfStep
   (fun q x => True) (fun d x s c q hq hx _ _ => ⟨trivial, free1 x s c⟩) 5 p.body false 0 0 trivial (by decide) hbo.1 (by have := hbo.2; omega)).2
  rw [eachF_free, Bool.false_or] at hea
  have hw : freeP p = freeL 5 p.body := by unfold freeP; rw [hq]; rfl
  rw [hw] at hR
  generalize freeL 5 p.body = w at *
  obtain ⟨vs, ar, bd⟩ := p
  simp only [rfB] at hea
  refine dcZ Tryz.func29 ?_
  simp (maxSteps := 9999999) only [go_sem]
  iterate 4 ((try (refine drvZ Tryz.func29 ?_; simp (maxSteps := 9999999) only [go_sem])); (try ((with_reducible refine And.intro ?_ ?_) <;> (repeat' with_reducible apply And.intro) <;> try exact sd)); (try first | refine XK.p hv ok20 ?_ | refine XK.gp hv ok20 ?_))
  refine XK.callG [320] hea ok68 (hhpG (by simp [HH, upd, renCs, renC])) (hbT ()) (fun d h' ⟨_, e⟩ => by subst e; simp) ?_
  rintro _ _ ⟨rfl, rfl⟩ _
  iterate 4 ((try (refine drvZ Tryz.func29 ?_; simp (maxSteps := 9999999) only [go_sem, Bool.not_not])); (try ((with_reducible refine And.intro ?_ ?_) <;> (repeat' with_reducible apply And.intro) <;> try exact sd)))
  subst hR
  exact RetOb.plain (d := DB _) ⟨rfl, rfl⟩ rfl
end Go.Proofs.YtpphageokplgoaaGreat.CtR
namespace Go.Proofs.YtpphageokplgoaaGreat.CtR
open Go Go.CT CtF
theorem RetOb.mem0 {R : D → List (Option (List C)) → Prop} {m : Mm} {hp : Hp} {k0 k1 k2 k3 nv na : Nat} (hna : m.arrays.length ≤ 2) (h4 : ∀ a ∈ m.arrays, a.length = 4) (hR : R (.agg m.cells) [])
 (h0 : hp k0 = some (some (m.vals.map I64))) (h1 : hp k1 = some (some (hdr k2 k3 m.arrays.length))) (h2 : hp k2 = some (some (blk0 m.arrays))) (h3 : hp k3 = some (some (blk1 m.arrays))) (hv : nv = m.vals.length) (hn : na = m.arrays.length)
 (hne : k0 ≠ k1 ∧ k0 ≠ k2 ∧ k0 ≠ k3 ∧ k1 ≠ k2 ∧ k1 ≠ k3 ∧ k2 ≠ k3) : RetOb 0 R (.agg [.msl k0 1 0 nv, .msl k1 1 0 na]) hp := by
 subst hv hn
 obtain ⟨va, arr⟩ := m
 obtain ⟨n01, n02, n03, n12, n13, n23⟩ := hne
 refine RetOb.step (fun j => if j = 0 then some k0 else if j = 1 then some k1 else none) [k2, k3] (.agg [.msl 0 1 0 va.length, .msl 1 1 0 arr.length]) [(0, some (va.map I64)), (1, some (arr.map isI))] ?_ ?_
 ·have e3 : ∀ a : List Int, (a.map fun n => [C.v (.int .i64 n)]).flatten = a.map I64 := fun a => flat1 _ a
  match arr, hna, h4, h1, h2, h3 with
  | [], _, h4, h1, h2, h3 => simp [DM, DMs, CM, CMs, HpOK, LowOK, hOf, upd, h0, CMs_I, h1, hdr, n01, n02, n03, n12, n13, n23, Ne.symm n01, Ne.symm n23]
  | [a], _, h4, h1, h2, h3 =>
   have ha := h4 a (by simp)
   simp [DM, DMs, CM, CMs, HpOK, LowOK, hOf, upd, h0, CMs_I, h1, h2, hdr, n01, n02, n03, n12, n13, n23, Ne.symm n01, Ne.symm n23, e3, isI, ha, blk0, kf]
  | [a, b], _, h4, h1, h2, h3 =>
   have ha := h4 a (by simp)
   have hb := h4 b (by simp)
   simp [DM, DMs, CM, CMs, HpOK, LowOK, hOf, upd, h0, CMs_I, h1, h2, h3, hdr, n01, n02, n03, n12, n13, n23, Ne.symm n01, Ne.symm n23, e3, isI, ha, hb, blk0, blk1, kf]
 ·refine RetOb.ofQ (fun _ => none) [0, 1] _ [] ⟨?_, trivial, trivial, by simp [enumL]⟩ hR (Nat.zero_le _)
  simp [DM, DMs, CM, CMs, hOf, upd, Mm.cells, isI, flat_I, kf]
  exact (flat1 isI arr).symm
end Go.Proofs.YtpphageokplgoaaGreat.CtR
