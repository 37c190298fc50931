/- Contracts of functions of the program, one behind the other, as plain data: what each call returns and which blocks it leaves. -/
import Derived.Test.YtehmajhoaibphaaGreatMFacts
import Derived.Test.YtehmajhoaibphaaGreatMAj
import Derived.Test.YtehmajhoaibphaaGreatMAk
import Derived.Test.YtehmajhoaibphaaGreatMAl
import Derived.Test.YtehmajhoaibphaaGreatMAn
import Derived.Test.YtehmajhoaibphaaGreatMAo
import Derived.Test.YtehmajhoaibphaaGreatMAu
import Derived.Test.YtehmajhoaibphaaGreatMAv
import Derived.Test.YtehmajhoaibphaaGreatMAt
set_option linter.unusedVariables false
set_option linter.unusedSimpArgs false
set_option maxHeartbeats 16000000
set_option maxRecDepth 100000
namespace Go.Proofs.YtehmajhoaibphaaGreat.CtR
open Go Go.CT CtF

theorem secE_ev {p : Pg} {m m' : Mm} (h : LowM 0 p m m') : ∀ (d : Nat) (e : Ex), shape p d e = true → secE p.vars p.arrays d e = false → (evalE m d e).2 = (evalE m' d e).2
  | 0, _, _, _ => rfl
  | d + 1, .mk k v ks, hs, hb => by
    obtain ⟨g1, g2, g3⟩ := shape_succ hs
    obtain ⟨_, hla, hv0, hv1⟩ := fits_len g1
    simp only [secE, Bool.or_eq_false_iff, List.any_eq_false, Bool.not_eq_true] at hb
    have hev : (ks.map fun e => (evalE m d e).2) = ks.map fun e => (evalE m' d e).2 := List.map_congr_left fun e he => secE_ev h d e (g2 e he) (hb.2 e he)
    simp only [evalE, hev]
    by_cases k3 : k = 3
    · subst k3
      have h0 : (ks.map fun e => (evalE m d e).1).getD 0 0 = (ks.map fun e => (evalE m' d e).1).getD 0 0 := by
        cases ks with
        | nil => rfl
        | cons a r =>
          have := hb.1
          simp only [beq_self_eq_true, Bool.true_and, kid0, secL] at this
          simp [evalE_low h d a (g2 a (by simp)) this]
      simp only [h0]
      simp
    · by_cases k1 : k = 1
      · simp [k1]
      · by_cases k2 : k = 2
        · simp [k2]
        · by_cases k11 : k = 11
          · simp [k11]
          · simp [k1, k2, k3, k11]

/-- Two traces differ first in a release. -/
def DivT (t t' : List Ev) : Prop := ∃ (pre : List Ev) (v v' : Int) (r r' : List Ev), v ≠ v' ∧ t = pre ++ ⟨4, v⟩ :: r ∧ t' = pre ++ ⟨4, v'⟩ :: r'
theorem DivT.app {t t' : List Ev} (h : DivT t t') (a b : List Ev) : DivT (t ++ a) (t' ++ b) := by
  obtain ⟨pre, v, v', r, r', h1, rfl, rfl⟩ := h
  exact ⟨pre, v, v', r ++ a, r' ++ b, h1, by simp, by simp⟩
theorem DivT.pre {t t' : List Ev} (h : DivT t t') (a : List Ev) : DivT (a ++ t) (a ++ t') := by
  obtain ⟨pre, v, v', r, r', h1, rfl, rfl⟩ := h
  exact ⟨a ++ pre, v, v', r, r', h1, by simp, by simp⟩
def ResT (p : Pg) (x x' : Mm × List Ev) : Prop := (LowM 0 p x.1 x'.1 ∧ x.2 = x'.2) ∨ DivT x.2 x'.2
theorem ResT.seq {p : Pg} {x x' y y' : Mm × List Ev} (h : ResT p x x') (h2 : LowM 0 p x.1 x'.1 → ResT p y y') : ResT p (y.1, x.2 ++ y.2) (y'.1, x'.2 ++ y'.2) := by
  rcases h with ⟨h, e⟩ | h
  · rcases h2 h with ⟨g, e2⟩ | g
    · exact .inl ⟨g, by simp only [e, e2]⟩
    · exact .inr (by simp only [e]; exact g.pre _)
  · exact .inr (h.app _ _)
theorem foldR_res {p : Pg} {f : Mm → St1 → Mm × List Ev} : ∀ (l : List St1) (m m' : Mm), LowM 0 p m m' → (∀ s ∈ l, ∀ m m', LowM 0 p m m' → ResT p (f m s) (f m' s)) → ResT p (foldR f m l) (foldR f m' l)
  | [], _, _, h, _ => .inl ⟨h, rfl⟩
  | s :: r, m, m', h, hf => by
    simp only [foldR]
    exact (hf s (by simp) m m' h).seq fun h => foldR_res r _ _ h fun t ht => hf t (by simp [ht])
theorem iterR_res {p : Pg} {f : Mm → Mm × List Ev} (hf : ∀ m m', LowM 0 p m m' → ResT p (f m) (f m')) : ∀ (n : Nat) (m m' : Mm), LowM 0 p m m' → ResT p (iterR f n m) (iterR f n m')
  | 0, _, _, h => .inl ⟨h, rfl⟩
  | n + 1, m, m', h => by
    simp only [iterR]
    exact (iterR_res hf n m m' h).seq fun h => hf _ _ h

theorem leak_spec {vs ar : List Int} {s : St1} {c : Nat} (h : leakR vs ar s c = 0) : (s.kind = 3 → secL (labN vs ar 5 s.value) = false) ∧ (s.kind = 2 → secL (labN vs ar 5 s.index) = false) ∧ secE vs ar 5 s.value = false := by
  unfold leakR at h
  by_cases h1 : s.kind = 3 ∧ secL (labN vs ar 5 s.value) = true
  · rw [if_pos h1] at h; omega
  · rw [if_neg h1] at h
    by_cases h2 : (s.kind = 2 ∧ secL (labN vs ar 5 s.index) = true) ∨ secE vs ar 5 s.value = true
    · rw [if_pos h2] at h; omega
    · simp only [not_or, not_and, Bool.not_eq_true] at h1 h2
      exact ⟨h1, h2.1, h2.2⟩

/-- Traces of a constant-time program do not depend on secrets, but for releases. -/
theorem run_ct {p : Pg} : ∀ (d c : Nat) (l : List St1), (∀ s ∈ l, stmtOK p d s = true) → fineL (flowR p.vars p.arrays) p.vars p.arrays d c l = true → fineL (leakR p.vars p.arrays) p.vars p.arrays d c l = true →
    ∀ m m', LowM 0 p m m' → ResT p (foldR (runS d) m l) (foldR (runS d) m' l)
  | 0, c, l, _, _, _, m, m', h => foldR_res l m m' h fun s _ m m' h => .inl ⟨h, rfl⟩
  | d + 1, c, l, hok, hf, hk, m, m', h => by
    refine foldR_res l m m' h fun s hs m m' h => ?_
    simp only [fineL, List.all_eq_true, Bool.and_eq_true, beq_iff_eq, bne_iff_ne] at hf hk
    obtain ⟨⟨f1, f2⟩, f3⟩ := hf s hs
    obtain ⟨⟨g1, g2⟩, g3⟩ := hk s hs
    have hso := hok s hs
    have h1 := fun hk => flow_assign f1 hk
    have h2 := fun hk => flow_store f1 hk
    obtain ⟨g3', g4⟩ := leak_spec g1
    have hsv := fun h => stored_v (β := 0) (vs := p.vars) (ar := p.arrays) (s := s) (c := c) h
    generalize storedN p.vars p.arrays s c = sto at *
    obtain ⟨k, t, ix, v, cc, b, e⟩ := s
    have hbo := stmtOK_succ hso
    obtain ⟨s1, s2⟩ := shapeV hso
    have hb := fun m m' h => run_ct d _ b hbo.2.1 f2 g2 m m' h
    have he := fun m m' h => run_ct d _ e hbo.2.2 f3 g3 m m' h
    simp only [St1.kind, St1.target, St1.body, St1.els, St1.value, St1.index] at h1 h2 f2 f3 g2 g3 hsv g3' g4
    by_cases k4 : k = 4
    · subst k4; rw [runS_4, runS_4]; exact iterR_res (fun m m' h => hb m m' h) _ m m' h
    have hv := fun hb => evalE_low (β := 0) h 5 v (s1 k4) hb
    have hev := secE_ev h 5 v (s1 k4) g4.2
    by_cases k1 : k = 1
    · subst k1; rw [runS_1, runS_1]
      refine .inl ⟨h.setV ?_, hev⟩
      cases hl : (labN p.vars p.arrays 5 v).testBit 0 with
      | false => exact .inl (by rw [hv hl])
      | true => exact .inr (subL_bit (h1 rfl) (hsv hl))
    by_cases k5 : k = 5
    · subst k5; rw [runS_5, runS_5]
      by_cases hvv : (evalE m 5 v).1 = (evalE m' 5 v).1
      · exact .inl ⟨h.setV (.inl hvv), by simp only [hev, hvv]⟩
      · exact .inr ⟨(evalE m' 5 v).2, (evalE m 5 v).1, (evalE m' 5 v).1, [], [], hvv, by simp only [hev], rfl⟩
    by_cases k2 : k = 2
    · subst k2; rw [runS_2, runS_2]
      have hi := evalE_low (β := 0) h 5 ix (s2 rfl) (g4.1 rfl)
      refine .inl ⟨h.setA ?_, by simp only [hev, hi]⟩
      cases hl : (labN p.vars p.arrays 5 v).testBit 0 with
      | true => exact .inr (subL_bit (h2 rfl) (hsv hl))
      | false => exact .inl ⟨by rw [hi], by rw [hv hl]⟩
    have k3 : k = 3 := by
      have := head_kind hbo.1
      omega
    have hi := fun m => runS_if (d := d) (m := m) (t := t) (ix := ix) (v := v) (c := cc) (b := b) (e := e) k4 k1 k5 k2
    subst k3
    have hvv := hv (g3' rfl)
    have hpre : ResT p (m, (evalE m 5 v).2) (m', (evalE m' 5 v).2) := .inl ⟨h, hev⟩
    by_cases hz : (evalE m 5 v).1 = 0
    · rw [(hi m).2 hz, (hi m').2 (by rw [← hvv]; exact hz)]
      have := hpre.seq (y := (m, [⟨1, 0⟩])) (y' := (m', [⟨1, 0⟩])) fun h => .inl ⟨h, rfl⟩
      exact this.seq fun h => he m m' h
    · rw [(hi m).1 hz, (hi m').1 (by rw [← hvv]; exact hz)]
      have := hpre.seq (y := (m, [⟨1, 1⟩])) (y' := (m', [⟨1, 1⟩])) fun h => .inl ⟨h, rfl⟩
      exact this.seq fun h => hb m m' h

theorem eval_ev4 (m : Mm) : ∀ (d : Nat) (e : Ex), ∀ x ∈ (evalE m d e).2, x.kind ≠ 4
  | 0, _, x, hx => by simp [evalE] at hx
  | d + 1, .mk k v ks, x, hx => by
    have hf : ∀ x ∈ (ks.map fun e => (evalE m d e).2).flatten, x.kind ≠ 4 := fun x hx => by
      obtain ⟨l, hl, hx⟩ := List.mem_flatten.1 hx
      obtain ⟨e, _, rfl⟩ := List.mem_map.1 hl
      exact eval_ev4 m d e x hx
    simp only [evalE] at hx
    split at hx
    · simp at hx
    · split at hx
      · simp at hx
      · split at hx
        · rcases List.mem_append.1 hx with h | h
          · exact hf x h
          · rw [List.mem_singleton.1 h]; simp
        · split at hx
          · exact hf x hx
          · exact hf x hx
theorem foldR_evs {f : Mm → St1 → Mm × List Ev} {Q : Ev → Prop} : ∀ (l : List St1) (m : Mm), (∀ s ∈ l, ∀ m, ∀ x ∈ (f m s).2, Q x) → ∀ x ∈ (foldR f m l).2, Q x
  | [], _, _, x, hx => by simp [foldR] at hx
  | s :: r, m, hf, x, hx => by
    simp only [foldR] at hx
    rcases List.mem_append.1 hx with h | h
    · exact hf s (by simp) m x h
    · exact foldR_evs r _ (fun t ht => hf t (by simp [ht])) x h
theorem iterR_evs {f : Mm → Mm × List Ev} {Q : Ev → Prop} (hf : ∀ m, ∀ x ∈ (f m).2, Q x) : ∀ (n : Nat) (m : Mm), ∀ x ∈ (iterR f n m).2, Q x
  | 0, _, x, hx => by simp [iterR] at hx
  | n + 1, m, x, hx => by
    simp only [iterR] at hx
    rcases List.mem_append.1 hx with h | h
    · exact iterR_evs hf n m x h
    · exact hf _ x h
/-- No statement that releases, no release. -/
theorem free_ev : ∀ (d : Nat) (l : List St1), freeL d l = true → ∀ m, ∀ x ∈ (foldR (runS d) m l).2, x.kind ≠ 4
  | 0, l, _, m => foldR_evs l m fun s _ m x hx => by simp [runS] at hx
  | d + 1, l, hr, m => by
    refine foldR_evs l m fun s hs m => ?_
    simp only [freeL, List.all_eq_true, Bool.and_eq_true, bne_iff_ne] at hr
    obtain ⟨⟨r1, r2⟩, r3⟩ := hr s hs
    obtain ⟨k, t, ix, v, cc, b, e⟩ := s
    simp only [St1.kind] at r1
    have hb := fun m => free_ev d b r2 m
    have he := fun m => free_ev d e r3 m
    have hv := eval_ev4 m 5 v
    by_cases k4 : k = 4
    · subst k4; rw [runS_4]; exact iterR_evs (fun m => hb m) _ m
    by_cases k1 : k = 1
    · subst k1; rw [runS_1]; exact hv
    by_cases k2 : k = 2
    · subst k2; rw [runS_2]
      intro x hx
      rcases List.mem_append.1 hx with h | h
      · exact hv x h
      · rw [List.mem_singleton.1 h]; simp
    have hi := runS_if (d := d) (m := m) (t := t) (ix := ix) (v := v) (c := cc) (b := b) (e := e) k4 k1 r1 k2
    by_cases hz : (evalE m 5 v).1 = 0
    · rw [hi.2 hz]
      intro x hx
      rcases List.mem_append.1 hx with h | h
      · rcases List.mem_append.1 h with h | h
        · exact hv x h
        · rw [List.mem_singleton.1 h]; simp
      · exact he m x h
    · rw [hi.1 hz]
      intro x hx
      rcases List.mem_append.1 hx with h | h
      · rcases List.mem_append.1 h with h | h
        · exact hv x h
        · rw [List.mem_singleton.1 h]; simp
      · exact hb m x h

/-- Where two traces first differ, or -1. -/
def fdif : List Ev → List Ev → Int → Int
  | [], [], _ => -1
  | a :: r, b :: s, n => if a.kind = b.kind ∧ a.value = b.value then fdif r s (n + 1) else n
  | _, _, n => n
end Go.Proofs.YtehmajhoaibphaaGreat.CtR

namespace Go.Proofs.YtehmajhoaibphaaGreat.CtR
open Go Go.CT CtF

theorem le3 {a : Nat} (h : a ≤ 3) : a = 0 ∨ a = 1 ∨ a = 2 ∨ a = 3 := by omega
theorem subI (a b : Nat) (ha : a ≤ 3) (hb : b ≤ 3) : decide (((a ||| b : Nat) : Int) = (b : Int)) = subL a b := by
  rcases le3 ha with rfl | rfl | rfl | rfl <;> rcases le3 hb with rfl | rfl | rfl | rfl <;> decide
theorem subA (a b : Nat) (ha : a ≤ 3) (hb : b ≤ 3) : decide (((a ^^^ (a &&& b) : Nat) : Int) = 0) = subL a b := by
  rcases le3 ha with rfl | rfl | rfl | rfl <;> rcases le3 hb with rfl | rfl | rfl | rfl <;> decide
theorem secI (a : Nat) (ha : a ≤ 3) : decide (((a &&& 1 : Nat) : Int) = 1) = secL a := by
  rcases le3 ha with rfl | rfl | rfl | rfl <;> decide
theorem secI' (a : Nat) (ha : a ≤ 3) : decide (((a &&& 1 : Nat) : Int) ≠ 0) = secL a := by
  rcases le3 ha with rfl | rfl | rfl | rfl <;> decide
theorem truI (a : Nat) (ha : a ≤ 3) : decide (((a &&& 2 : Nat) : Int) = 0) = trustL a := by
  rcases le3 ha with rfl | rfl | rfl | rfl <;> decide

theorem labelFlowsS (a b : Nat) (ha : a ≤ 3) (hb : b ≤ 3) : DC Tryz.prog 196 [DI .i64 a, DI .i64 b] [] (fun r h => r = DB (subL a b) ∧ h = []) := by
  have h1 := labelValidS a
  have h2 := labelValidS b
  have ha' : (decide (0 ≤ (a : Int)) && decide ((a : Int) ≤ 3)) = true := by simp; omega
  have hb' : (decide (0 ≤ (b : Int)) && decide ((b : Int) ≤ 3)) = true := by simp; omega
  rw [ha'] at h1
  rw [hb'] at h2
  have hs := subI a b ha hb
  generalize hR : (fun (r : D) (h : List (Option (List C))) => r = DB (subL a b) ∧ h = []) = R
  refine dcZ Tryz.func196 ?_
  simp (maxSteps := 9999999) only [go_sem]
  iterate 6 ((try (refine drvZ Tryz.func196 ?_; simp (maxSteps := 9999999) only [go_sem])); (try ((with_reducible refine And.intro ?_ ?_) <;> (repeat' with_reducible apply And.intro) <;> try exact sd)); (try first | refine XK.p h1 ok175 ?_ | refine XK.gp h1 ok175 ?_ | refine XK.p h2 ok175 ?_ | refine XK.gp h2 ok175 ?_))
  refine RetOb.plain (d := DB _) ?_ rfl
  rw [← hR, ← hs]
  exact ⟨rfl, rfl⟩
theorem labelSecretS (a : Nat) (ha : a ≤ 3) : DC Tryz.prog 126 [DI .i64 a] [] (fun r h => r = DB (secL a) ∧ h = []) := by
  have h1 := labelValidS a
  have ha' : (decide (0 ≤ (a : Int)) && decide ((a : Int) ≤ 3)) = true := by simp; omega
  rw [ha'] at h1
  have hs := secI a ha
  generalize hR : (fun (r : D) (h : List (Option (List C))) => r = DB (secL a) ∧ h = []) = R
  refine dcZ Tryz.func126 ?_
  simp (maxSteps := 9999999) only [go_sem]
  iterate 4 ((try (refine drvZ Tryz.func126 ?_; simp (maxSteps := 9999999) only [go_sem])); (try ((with_reducible refine And.intro ?_ ?_) <;> (repeat' with_reducible apply And.intro) <;> try exact sd)); (try first | refine XK.p h1 ok175 ?_ | refine XK.gp h1 ok175 ?_))
  refine RetOb.plain (d := DB _) ?_ rfl
  rw [← hR, ← hs]
  exact ⟨rfl, rfl⟩
theorem labelTrustedS (a : Nat) (ha : a ≤ 3) : DC Tryz.prog 197 [DI .i64 a] [] (fun r h => r = DB (trustL a) ∧ h = []) := by
  have h1 := labelValidS a
  have ha' : (decide (0 ≤ (a : Int)) && decide ((a : Int) ≤ 3)) = true := by simp; omega
  rw [ha'] at h1
  have hs := truI a ha
  generalize hR : (fun (r : D) (h : List (Option (List C))) => r = DB (trustL a) ∧ h = []) = R
  refine dcZ Tryz.func197 ?_
  simp (maxSteps := 9999999) only [go_sem]
  iterate 4 ((try (refine drvZ Tryz.func197 ?_; simp (maxSteps := 9999999) only [go_sem])); (try ((with_reducible refine And.intro ?_ ?_) <;> (repeat' with_reducible apply And.intro) <;> try exact sd)); (try first | refine XK.p h1 ok175 ?_ | refine XK.gp h1 ok175 ?_))
  refine RetOb.plain (d := DB _) ?_ rfl
  rw [← hR, ← hs]
  exact ⟨rfl, rfl⟩
theorem flowsI (a b : Nat) (ha : a ≤ 3) (hb : b ≤ 3) : DC Tryz.prog 142 [DI .i64 a, DI .i64 b] [] (fun r h => r = DB (subL a b) ∧ h = []) := by
  have hs := subA a b ha hb
  generalize hR : (fun (r : D) (h : List (Option (List C))) => r = DB (subL a b) ∧ h = []) = R
  refine dcZ Tryz.func142 ?_
  simp (maxSteps := 9999999) only [go_sem]
  iterate 2 ((try (refine drvZ Tryz.func142 ?_; simp (maxSteps := 9999999) only [go_sem])); (try ((with_reducible refine And.intro ?_ ?_) <;> (repeat' with_reducible apply And.intro) <;> try exact sd)))
  refine RetOb.plain (d := DB _) ?_ rfl
  rw [← hR, ← hs]
  exact ⟨rfl, rfl⟩
theorem labelTrustedI (a : Nat) (ha : a ≤ 3) : DC Tryz.prog 144 [DI .i64 a] [] (fun r h => r = DB (trustL a) ∧ h = []) := by
  have h1 := labelValidI a
  have ha' : (decide (0 ≤ (a : Int)) && decide ((a : Int) ≤ 3)) = true := by simp; omega
  rw [ha'] at h1
  have hs := truI a ha
  generalize hR : (fun (r : D) (h : List (Option (List C))) => r = DB (trustL a) ∧ h = []) = R
  refine dcZ Tryz.func144 ?_
  simp (maxSteps := 9999999) only [go_sem]
  iterate 4 ((try (refine drvZ Tryz.func144 ?_; simp (maxSteps := 9999999) only [go_sem])); (try ((with_reducible refine And.intro ?_ ?_) <;> (repeat' with_reducible apply And.intro) <;> try exact sd)); (try first | refine XK.p h1 ok72 ?_ | refine XK.gp h1 ok72 ?_))
  refine RetOb.plain (d := DB _) ?_ rfl
  rw [← hR, ← hs]
  exact ⟨rfl, rfl⟩
theorem labelSecretI (a : Nat) (ha : a ≤ 3) : DC Tryz.prog 27 [DI .i64 a] [] (fun r h => r = DB (secL a) ∧ h = []) := by
  have h1 := labelValidI a
  have ha' : (decide (0 ≤ (a : Int)) && decide ((a : Int) ≤ 3)) = true := by simp; omega
  rw [ha'] at h1
  have hs := secI' a ha
  generalize hR : (fun (r : D) (h : List (Option (List C))) => r = DB (secL a) ∧ h = []) = R
  refine dcZ Tryz.func27 ?_
  simp (maxSteps := 9999999) only [go_sem]
  iterate 4 ((try (refine drvZ Tryz.func27 ?_; simp (maxSteps := 9999999) only [go_sem])); (try ((with_reducible refine And.intro ?_ ?_) <;> (repeat' with_reducible apply And.intro) <;> try exact sd)); (try first | refine XK.p h1 ok72 ?_ | refine XK.gp h1 ok72 ?_))
  refine RetOb.plain (d := DB _) ?_ rfl
  rw [← hR, ← hs]
  refine ⟨?_, rfl⟩
  rcases le3 ha with rfl | rfl | rfl | rfl <;> rfl
end Go.Proofs.YtehmajhoaibphaaGreat.CtR

namespace Go.Proofs.YtehmajhoaibphaaGreat.CtR
open Go Go.CT CtF

theorem labelS (p : Pg) (hl : p.vars.length ≤ mx) (hl2 : p.arrays.length ≤ mx) (h1 : lab3 p.vars) (h2 : lab3 p.arrays) : ∀ (d : Nat) (e : Ex), shape p d e = true → DC Tryz.prog 127 [.agg p.cells, .agg e.cells] [] (fun r h => r = DI .i64 (labN p.vars p.arrays d e) ∧ h = []) := by
  have hmx := mx_eq
  intro d
  induction d with
  | zero => intro e h; simp [shape] at h
  | succ d ih =>
    intro e hsh
    obtain ⟨k, v, ks⟩ := e
    obtain ⟨g1, g2, g3⟩ := shape_succ hsh
    obtain ⟨hl3, hla, hv0, hv1⟩ := fits_len g1
    obtain ⟨vs, ar, bd⟩ := p
    have h1 : lab3 vs := h1
    have h2 : lab3 ar := h2
    generalize hR : (fun (r : D) (h : List (Option (List C))) => r = DI .i64 (labN vs ar (d + 1) (.mk k v ks)) ∧ h = []) = R
    have hle := fun e => labN_le h1 h2 d e
    have hacc : ∀ i, ((ks.take i).map (labN vs ar d)).foldl (fun a b => a ||| b) (labB vs ar k v) ≤ 3 := fun i => by
      have := labN_le h1 h2 (d + 1) (.mk k v (ks.take i))
      exact this
    have hlb : labB vs ar k v ≤ 3 := hacc 0
    have key : k = 2 ∨ k = 3 ∨ (k ≠ 2 ∧ k ≠ 3) := by omega
    rcases key with hk | hk | hk
    case' inl =>
      have hv1' : v < vs.length := by subst hk; simpa [limit] using hv1
      have hx := (nth_mem (l := vs) hv0 hv1').1
      have hB : ((labB vs ar k v : Nat) : Int) = nth vs v := by have := nth_lab h1 v; simp [labB, hk]; omega
      have e2 : (k == 2) = true := by simp [hk]
      refine dcZ Tryz.func127 ?_
      simp (maxSteps := 9999999) only [go_sem]
      iterate 4 ((try (refine drvZ Tryz.func127 ?_; simp (maxSteps := 9999999) only [go_sem, hx, e2, eq_true hk])); (try ((with_reducible refine And.intro ?_ ?_) <;> (repeat' with_reducible apply And.intro) <;> try exact sd)))
    case' inr.inl =>
      have hv1' : v < ar.length := by subst hk; simpa [limit] using hv1
      have hx := (nth_mem (l := ar) hv0 hv1').1
      have hB : ((labB vs ar k v : Nat) : Int) = nth ar v := by have := nth_lab h2 v; simp [labB, hk]; omega
      have e2 : (k == 2) = false := by simp [hk]
      have e3 : (k == 3) = true := by simp [hk]
      have f2 : (k = 2) = False := by simp [hk]
      refine dcZ Tryz.func127 ?_
      simp (maxSteps := 9999999) only [go_sem]
      iterate 4 ((try (refine drvZ Tryz.func127 ?_; simp (maxSteps := 9999999) only [go_sem, hx, e2, e3, f2, eq_true hk])); (try ((with_reducible refine And.intro ?_ ?_) <;> (repeat' with_reducible apply And.intro) <;> try exact sd)))
    case' inr.inr =>
      have hB : ((labB vs ar k v : Nat) : Int) = 0 := by simp [labB, hk.1, hk.2]
      have e2 : (k == 2) = false := by simp [hk.1]
      have e3 : (k == 3) = false := by simp [hk.2]
      have hk2 := hk.1
      have hk3 := hk.2
      refine dcZ Tryz.func127 ?_
      simp (maxSteps := 9999999) only [go_sem]
      iterate 4 ((try (refine drvZ Tryz.func127 ?_; simp (maxSteps := 9999999) only [go_sem, e2, e3, hk2, hk3])); (try ((with_reducible refine And.intro ?_ ?_) <;> (repeat' with_reducible apply And.intro) <;> try exact sd)))
    all_goals
      clear hk
      refine Go.loopQ (fun i : Nat => [(2, .c (.ptr 0 0)), (3, .c (.ptr 64 0)), (5, DI .i64 (((ks.take i).map (labN vs ar d)).foldl (fun a b => a ||| b) (labB vs ar k v) : Nat)), (6, DI .i64 i)]) (fun i => [(0, some (Pg.cells ⟨vs, ar, bd⟩)), (64, some (Ex.cells (.mk k v ks)))])
        4096 (fun i => i ≤ ks.length) (fun i => ks.length - i) ?_ 0 some [] _ (Nat.zero_le _) ?_
      · intro i hi again
        rcases Nat.lt_or_ge i ks.length with hlt | hge
        · obtain ⟨⟨k', v', ks'⟩, hx⟩ : ∃ x, ks[i]? = some x := ⟨ks[i], by simp [hlt]⟩
          have hsc := lab_succ (labN vs ar d) (labB vs ar k v) ks i _ hx
          have ha := hacc i
          have hb := hle (.mk k' v' ks')
          have hc := hacc (i + 1)
          rw [hsc] at hc
          have hi := ih (.mk k' v' ks') (g2 _ (List.mem_of_getElem? hx))
          generalize ((ks.take i).map (labN vs ar d)).foldl (fun a b => a ||| b) (labB vs ar k v) = acc at *
          refine drvL Tryz.func127 ?_
          simp (maxSteps := 9999999) only [go_sem, hx, hlt]
          iterate 5 ((try (refine drvZ Tryz.func127 ?_; simp (maxSteps := 9999999) only [go_sem, hx, hlt])); (try ((with_reducible refine And.intro ?_ ?_) <;> (repeat' with_reducible apply And.intro) <;> try exact sd)); (try first | refine XK.p hi ok127 ?_ | refine XK.gp hi ok127 ?_))
          refine again (i + 1) some [] _ hlt (by omega) ?_
          simp (maxSteps := 9999999) only [go_sem, TmOK, DM, DMs, CM, CMs, forall_eq, exists_eq_left, Mq, HpOK, LowOK, hsc]
          simp
          rw [← List.map_take, hsc]
        · have hn : ¬ i < ks.length := by omega
          obtain rfl : i = ks.length := by omega
          refine drvL Tryz.func127 ?_
          simp (maxSteps := 9999999) only [go_sem, hn, List.take_length]
          iterate 2 ((try (refine drvZ Tryz.func127 ?_; simp (maxSteps := 9999999) only [go_sem, hn, List.take_length])); (try ((with_reducible refine And.intro ?_ ?_) <;> (repeat' with_reducible apply And.intro) <;> try exact sd)))
          exact RetOb.plain (d := DI .i64 _) (by rw [← hR]; exact ⟨rfl, rfl⟩) rfl
      · simp (maxSteps := 9999999) only [go_sem, TmOK, DM, DMs, CM, CMs, forall_eq, exists_eq_left, Mq, HpOK, LowOK, List.take_zero, List.map_nil, List.foldl_nil]
        simp [hB]
end Go.Proofs.YtehmajhoaibphaaGreat.CtR

namespace Go.Proofs.YtehmajhoaibphaaGreat.CtR
open Go Go.CT CtF

theorem any_succ (f : Ex → Bool) (ks : List Ex) (i : Nat) (x : Ex) (h : ks[i]? = some x) : (ks.take (i + 1)).any f = ((ks.take i).any f || f x) := by
  rw [List.take_add_one, h]; simp

theorem secretS (p : Pg) (hl : p.vars.length ≤ mx) (hl2 : p.arrays.length ≤ mx) (h1 : lab3 p.vars) (h2 : lab3 p.arrays) : ∀ (d : Nat) (e : Ex), shape p d e = true → DC Tryz.prog 198 [.agg p.cells, .agg e.cells] [] (fun r h => r = DB (secE p.vars p.arrays d e) ∧ h = []) := by
  have hmx := mx_eq
  intro d
  induction d with
  | zero => intro e h; simp [shape] at h
  | succ d ih =>
    intro e hsh
    have hlab := labelS p hl hl2 h1 h2 d
    obtain ⟨k, v, ks⟩ := e
    obtain ⟨g1, g2, g3⟩ := shape_succ hsh
    obtain ⟨hl3, hla, hv0, hv1⟩ := fits_len g1
    obtain ⟨vs, ar, bd⟩ := p
    have h1 : lab3 vs := h1
    have h2 : lab3 ar := h2
    have hE : secE vs ar (d + 1) (.mk k v ks) = ((k == 3 && secL (labN vs ar d (kid0 ks))) || ks.any (secE vs ar d)) := rfl
    have ret : ∀ (b : Bool) (hp : Hp), b = secE vs ar (d + 1) (.mk k v ks) → RetOb 0 (fun r h => r = DB (secE vs ar (d + 1) (.mk k v ks)) ∧ h = []) (DB b) hp := fun b hp h => RetOb.plain (d := DB _) ⟨by rw [h], rfl⟩ rfl
    simp only at ret ⊢
    generalize hR : (fun (r : D) (h : List (Option (List C))) => r = DB (secE vs ar (d + 1) (.mk k v ks)) ∧ h = []) = R at ret ⊢
    rw [hE] at ret
    clear hE hR
    have hany : ∀ i, i ≤ ks.length → (ks.take i).any (secE vs ar d) = true → ks.any (secE vs ar d) = true := fun i _ h => by
      obtain ⟨x, hx, hb⟩ := List.any_eq_true.1 h
      exact List.any_eq_true.2 ⟨x, List.mem_of_mem_take hx, hb⟩
    by_cases hk : k = 3
    case' pos =>
      have e3 : (k == 3) = true := by simp [hk]
      have hk := eq_true hk
      obtain ⟨⟨k0, v0, s0⟩, rfl⟩ : ∃ a, ks = [a] := by
        have : ks.length = 1 := by rw [of_eq_true hk] at hla; simp [arity] at hla; omega
        match ks, this with
        | [a], _ => exact ⟨a, rfl⟩
      have hla0 := hlab (.mk k0 v0 s0) (g2 _ (by simp))
      have hle := labN_le h1 h2 d (.mk k0 v0 s0)
      rw [e3] at ret
      simp only [Bool.true_and, kid0] at ret
      generalize hl0 : labN vs ar d (.mk k0 v0 s0) = l0 at *
      have hse := labelSecretS l0 hle
      generalize hb0 : secL l0 = b0 at *
      generalize hks : [Ex.mk k0 v0 s0] = ks at *
      have hx0 : ks[0]? = some (.mk k0 v0 s0) := by rw [← hks]; rfl
      refine dcZ Tryz.func198 ?_
      simp (maxSteps := 9999999) only [go_sem]
      iterate 5 ((try (refine drvZ Tryz.func198 ?_; simp (maxSteps := 9999999) only [go_sem, hx0, hk, e3])); (try ((with_reducible refine And.intro ?_ ?_) <;> (repeat' with_reducible apply And.intro) <;> try exact sd)); (try first | refine XK.p hla0 ok127 ?_ | refine XK.gp hla0 ok127 ?_ | refine XK.p hse ok126 ?_ | refine XK.gp hse ok126 ?_))
      · intro hbt; exact ret true _ (by rw [hbt]; rfl)
      intro hbf
      rw [hbf]
    case' neg =>
      obtain ⟨b0, hb0⟩ : ∃ b : Bool, b = (k == 3 && secL (labN vs ar d (kid0 ks))) := ⟨_, rfl⟩
      rw [← hb0] at ret
      have hbf : b0 = false := by rw [hb0]; simp [hk]
      clear hb0
      have e3 : (k == 3) = false := by simp [hk]
      rcases hx0 : ks[0]? with _ | ⟨k0, v0, s0⟩
      all_goals
        refine dcZ Tryz.func198 ?_
        simp (maxSteps := 9999999) only [go_sem]
        iterate 5 ((try (refine drvZ Tryz.func198 ?_; simp (maxSteps := 9999999) only [go_sem, hx0, hk, e3])); (try ((with_reducible refine And.intro ?_ ?_) <;> (repeat' with_reducible apply And.intro) <;> try exact sd)); (try first | refine XK.gs (DB false) ?_ | refine XK.gs (DI .i64 0) ?_))
    all_goals
      rw [hbf] at ret
      simp only [Bool.false_or] at ret
      clear hk e3
      refine Go.loopQ (fun i : Nat => [(2, .c (.ptr 0 0)), (3, .c (.ptr 64 0)), (5, DI .i64 i)]) (fun i => [(0, some (Pg.cells ⟨vs, ar, bd⟩)), (64, some (Ex.cells (.mk k v ks)))])
        4096 (fun i => i ≤ ks.length ∧ (ks.take i).any (secE vs ar d) = false) (fun i => ks.length - i) ?_ 0 some [] _ ⟨Nat.zero_le _, rfl⟩ ?_
      · rintro i ⟨hi, hai⟩ again
        rcases Nat.lt_or_ge i ks.length with hlt | hge
        · obtain ⟨⟨k', v', ks'⟩, hx⟩ : ∃ x, ks[i]? = some x := ⟨ks[i], by simp [hlt]⟩
          have hsc := any_succ (secE vs ar d) ks i _ hx
          have hi2 := ih (.mk k' v' ks') (g2 _ (List.mem_of_getElem? hx))
          have hay := hany (i + 1) hlt
          rw [hsc, hai, Bool.false_or] at hay
          rw [hai, Bool.false_or] at hsc
          simp only at hi2
          generalize hbi : secE vs ar d (.mk k' v' ks') = bi at *
          refine drvL Tryz.func198 ?_
          simp (maxSteps := 9999999) only [go_sem, hx, hlt]
          iterate 5 ((try (refine drvZ Tryz.func198 ?_; simp (maxSteps := 9999999) only [go_sem, hx, hlt])); (try ((with_reducible refine And.intro ?_ ?_) <;> (repeat' with_reducible apply And.intro) <;> try exact sd)); (try first | refine XK.p hi2 ok198 ?_ | refine XK.gp hi2 ok198 ?_))
          · intro hbt; exact ret true _ (hay hbt).symm
          · intro hbt
            iterate 3 ((try (refine drvZ Tryz.func198 ?_; simp (maxSteps := 9999999) only [go_sem, hx, hlt])); (try ((with_reducible refine And.intro ?_ ?_) <;> (repeat' with_reducible apply And.intro) <;> try exact sd)))
            refine again (i + 1) some [] _ ⟨hlt, by rw [hsc, hbt]⟩ (by omega) ?_
            simp (maxSteps := 9999999) only [go_sem, TmOK, DM, DMs, CM, CMs, forall_eq, exists_eq_left, Mq, HpOK, LowOK]
            simp
        · have hn : ¬ i < ks.length := by omega
          obtain rfl : i = ks.length := by omega
          rw [List.take_length] at hai
          refine drvL Tryz.func198 ?_
          simp (maxSteps := 9999999) only [go_sem, hn]
          iterate 3 ((try (refine drvZ Tryz.func198 ?_; simp (maxSteps := 9999999) only [go_sem, hn])); (try ((with_reducible refine And.intro ?_ ?_) <;> (repeat' with_reducible apply And.intro) <;> try exact sd)))
          exact ret false _ hai.symm
      · simp (maxSteps := 9999999) only [go_sem, TmOK, DM, DMs, CM, CMs, forall_eq, exists_eq_left, Mq, HpOK, LowOK]
        simp
end Go.Proofs.YtehmajhoaibphaaGreat.CtR

namespace Go.Proofs.YtehmajhoaibphaaGreat.CtR
open Go Go.CT CtF

theorem lab_at {l : List Int} (h : lab3 l) {t : Int} (h0 : 0 ≤ t) (h1 : t < l.length) : ∃ T : Nat, T ≤ 3 ∧ (nth l t).toNat = T ∧ l[t.toNat]? = some (T : Int) := by
  have h2 := nth_lab h t
  have h3 := (nth_mem h0 h1).1
  exact ⟨(nth l t).toNat, by omega, rfl, by rw [h3]; congr 1; omega⟩
theorem own1 (vs ar : List Int) (strict : Bool) (t : Int) (ix v : Ex) (cc : Int) (b e : List St1) (c : Nat) :
    ownR strict vs ar (.mk 1 t ix v cc b e) c = if subL (labN vs ar 5 v ||| c) (nth vs t).toNat = true then (if strict = true then (if secE vs ar 5 v = true then 4 else 0) else 0) else 1 := by
  have hf : flowR vs ar (.mk 1 t ix v cc b e) c = if subL (labN vs ar 5 v ||| c) (nth vs t).toNat = true then 0 else 1 := rfl
  have hk : leakR vs ar (.mk 1 t ix v cc b e) c = if secE vs ar 5 v = true then 4 else 0 := by
    cases hse : secE vs ar 5 v <;> simp [leakR, St1.kind, St1.value, St1.index, hse]
  unfold ownR
  rw [hf, hk]
  cases subL (labN vs ar 5 v ||| c) (nth vs t).toNat <;> simp
theorem own2 (vs ar : List Int) (strict : Bool) (t : Int) (ix v : Ex) (cc : Int) (b e : List St1) (c : Nat) :
    ownR strict vs ar (.mk 2 t ix v cc b e) c = if subL (labN vs ar 5 v ||| labN vs ar 5 ix ||| c) (nth ar t).toNat = true then (if strict = true then (if secE vs ar 5 v || secL (labN vs ar 5 ix) then 4 else 0) else 0) else 1 := by
  have hst : storedN vs ar (.mk 2 t ix v cc b e) c = labN vs ar 5 v ||| labN vs ar 5 ix ||| c := by
    have : storedN vs ar (.mk 2 t ix v cc b e) c = labN vs ar 5 v ||| c ||| labN vs ar 5 ix := rfl
    rw [this, Nat.or_assoc, Nat.or_comm c, ← Nat.or_assoc]
  have hf : flowR vs ar (.mk 2 t ix v cc b e) c = if subL (labN vs ar 5 v ||| labN vs ar 5 ix ||| c) (nth ar t).toNat = true then 0 else 1 := by
    rw [← hst]; rfl
  unfold ownR
  rw [hf]
  have hk : leakR vs ar (.mk 2 t ix v cc b e) c = if secE vs ar 5 v || secL (labN vs ar 5 ix) then 4 else 0 := by
    cases hse : secE vs ar 5 v <;> cases hsl : secL (labN vs ar 5 ix) <;> simp [leakR, St1.kind, St1.value, St1.index, hse, hsl]
  rw [hk]
  cases subL (labN vs ar 5 v ||| labN vs ar 5 ix ||| c) (nth ar t).toNat <;> simp
theorem own3 (vs ar : List Int) (strict : Bool) (t : Int) (ix v : Ex) (cc : Int) (b e : List St1) (c : Nat) :
    ownR strict vs ar (.mk 3 t ix v cc b e) c = if strict = true then (if secL (labN vs ar 5 v) = true then 3 else if secE vs ar 5 v = true then 4 else 0) else 0 := by
  simp only [ownR, flowR, leakR, St1.kind, St1.value]
  cases strict <;> simp
theorem own4 (vs ar : List Int) (strict : Bool) (t : Int) (ix : Ex) (cc : Int) (b e : List St1) (c : Nat) :
    ownR strict vs ar (.mk 4 t ix (.mk 0 0 []) cc b e) c = 0 := by
  simp only [ownR, flowR, leakR, St1.kind, St1.value, secE]
  cases strict <;> simp
theorem own5 (vs ar : List Int) (strict : Bool) (t : Int) (ix v : Ex) (cc : Int) (b e : List St1) (c : Nat) :
    ownR strict vs ar (.mk 5 t ix v cc b e) c = if trustL (labN vs ar 5 v) && c == 0 then (if strict = true then (if secE vs ar 5 v = true then 4 else 0) else 0) else 2 := by
  have hf : flowR vs ar (.mk 5 t ix v cc b e) c = if trustL (labN vs ar 5 v) && c == 0 then 0 else 2 := rfl
  have hk : leakR vs ar (.mk 5 t ix v cc b e) c = if secE vs ar 5 v = true then 4 else 0 := by
    cases hse : secE vs ar 5 v <;> simp [leakR, St1.kind, St1.value, St1.index, hse]
  unfold ownR
  rw [hf, hk]
  cases (trustL (labN vs ar 5 v) && c == 0) <;> simp

theorem ownS (p : Pg) (hl : p.vars.length ≤ mx) (hl2 : p.arrays.length ≤ mx) (h1 : lab3 p.vars) (h2 : lab3 p.arrays) (d : Nat) (s : St1) (hs : stmtOK p (d + 1) s = true) (c : Nat) (hc : c ≤ 3) (strict : Bool) :
    DC Tryz.prog 188 [.agg p.cells, .agg s.cells, DI .i64 c, DB strict] [] (fun r h => r = DI .i64 (ownR strict p.vars p.arrays s c) ∧ h = []) := by
  have hmx := mx_eq
  have hlab := labelS p hl hl2 h1 h2 5
  have hsec := secretS p hl hl2 h1 h2 5
  have hle := labN_le h1 h2 5
  obtain ⟨vs, ar, bd⟩ := p
  have h1 : lab3 vs := h1
  have h2 : lab3 ar := h2
  have ret : ∀ (n : Int) (hp : Hp), n = ownR strict vs ar s c → RetOb 0 (fun r h => r = DI .i64 (ownR strict vs ar s c) ∧ h = []) (DI .i64 n) hp := fun n hp h => RetOb.plain (d := DI .i64 _) ⟨by rw [h], rfl⟩ rfl
  simp only at ret hle ⊢
  generalize hR : (fun (r : D) (h : List (Option (List C))) => r = DI .i64 (ownR strict vs ar s c) ∧ h = []) = R at ret ⊢
  clear hR
  obtain ⟨k, t, ⟨ik, iv, iks⟩, ⟨vk, vv, vks⟩, cc, b, e⟩ := s
  have hh := head_kind (stmtOK_succ hs).1
  rcases hh with ⟨hk, ht0, ht1, hr⟩ | ⟨rfl, ht0, ht1, hri, hat, hr⟩ | ⟨rfl, hr⟩ | ⟨rfl, _, _⟩
  · have hlv := hlab _ (right_shape hr).1
    have hsv := hsec _ (right_shape hr).1
    have hlvl := hle (.mk vk vv vks)
    obtain ⟨T, hT, hTe, htt⟩ := lab_at h1 ht0 ht1
    rcases hk with rfl | rfl
    · rw [own1, hTe] at ret
      generalize labN vs ar 5 (.mk vk vv vks) = lv at *
      have hor := or3 hlvl hc
      have hfl := labelFlowsS (lv ||| c) T hor hT
      generalize subL (lv ||| c) T = sub at *
      simp only at hsv
      generalize secE vs ar 5 (.mk vk vv vks) = sv at *
      cases sub <;> cases strict <;> cases sv
      all_goals
        refine dcZ Tryz.func188 ?_
        simp (maxSteps := 9999999) only [go_sem]
        iterate 9 ((try (refine drvZ Tryz.func188 ?_; simp (maxSteps := 9999999) only [go_sem, htt])); (try ((with_reducible refine And.intro ?_ ?_) <;> (repeat' with_reducible apply And.intro) <;> try exact sd)); (try first | refine XK.p hlv ok127 ?_ | refine XK.gp hlv ok127 ?_ | refine XK.p hfl ok196 ?_ | refine XK.gp hfl ok196 ?_ | refine XK.p hsv ok198 ?_ | refine XK.gp hsv ok198 ?_ | refine XK.gs (DB false) ?_ | refine XK.gs (DI .i64 0) ?_))
      all_goals exact ret _ _ (by rfl)
    · rw [own5] at ret
      have hc0 : (c == 0) = decide (c = 0) := rfl
      generalize labN vs ar 5 (.mk vk vv vks) = lv at *
      have htr := labelTrustedS lv hlvl
      generalize trustL lv = tr at *
      simp only at hsv
      generalize secE vs ar 5 (.mk vk vv vks) = sv at *
      have hcz : c = 0 ∨ (c ≠ 0 ∧ ((c : Int) = 0) = False ∧ ((c : Int) != 0) = true) := by
        rcases Nat.eq_zero_or_pos c with h | h
        · exact .inl h
        · exact .inr ⟨by omega, eq_false (by omega), by simp; omega⟩
      rcases hcz with rfl | ⟨hc1, hc2, hc3⟩
      · cases tr <;> cases strict <;> cases sv
        all_goals
          refine dcZ Tryz.func188 ?_
          simp (maxSteps := 9999999) only [go_sem]
          iterate 9 ((try (refine drvZ Tryz.func188 ?_; simp (maxSteps := 9999999) only [go_sem, Int.natCast_zero])); (try ((with_reducible refine And.intro ?_ ?_) <;> (repeat' with_reducible apply And.intro) <;> try exact sd)); (try first | refine XK.p hlv ok127 ?_ | refine XK.gp hlv ok127 ?_ | refine XK.p htr ok197 ?_ | refine XK.gp htr ok197 ?_ | refine XK.p hsv ok198 ?_ | refine XK.gp hsv ok198 ?_ | refine XK.gs (DB false) ?_ | refine XK.gs (DI .i64 0) ?_))
        all_goals exact ret _ _ (by rfl)
      · have hce : (c == 0) = false := by simp [hc1]
        rw [hce] at ret
        cases tr <;> cases strict <;> cases sv
        all_goals
          refine dcZ Tryz.func188 ?_
          simp (maxSteps := 9999999) only [go_sem]
          iterate 9 ((try (refine drvZ Tryz.func188 ?_; simp (maxSteps := 9999999) only [go_sem, hc2, hc3])); (try ((with_reducible refine And.intro ?_ ?_) <;> (repeat' with_reducible apply And.intro) <;> try exact sd)); (try first | refine XK.p hlv ok127 ?_ | refine XK.gp hlv ok127 ?_ | refine XK.p htr ok197 ?_ | refine XK.gp htr ok197 ?_ | refine XK.p hsv ok198 ?_ | refine XK.gp hsv ok198 ?_ | refine XK.gs (DB false) ?_ | refine XK.gs (DI .i64 0) ?_))
        all_goals exact ret _ _ (by rfl)
  · have hlv := hlab _ (right_shape hr).1
    have hli := hlab _ (right_shape hri).1
    have hsv := hsec _ (right_shape hr).1
    have hlvl := hle (.mk vk vv vks)
    have hlil := hle (.mk ik iv iks)
    obtain ⟨T, hT, hTe, htt⟩ := lab_at h2 ht0 ht1
    rw [own2, hTe] at ret
    generalize labN vs ar 5 (.mk vk vv vks) = lv at *
    generalize labN vs ar 5 (.mk ik iv iks) = li at *
    have hvi := or3 hlvl hlil
    have hor := or3 hvi hc
    have hfl := labelFlowsS (lv ||| li ||| c) T hor hT
    have hsl := labelSecretS li hlil
    generalize subL (lv ||| li ||| c) T = sub at *
    generalize secL li = sl at *
    simp only at hsv
    generalize secE vs ar 5 (.mk vk vv vks) = sv at *
    cases sub <;> cases strict <;> cases sv <;> cases sl
    all_goals
      refine dcZ Tryz.func188 ?_
      simp (maxSteps := 9999999) only [go_sem]
      iterate 9 ((try (refine drvZ Tryz.func188 ?_; simp (maxSteps := 9999999) only [go_sem, htt])); (try ((with_reducible refine And.intro ?_ ?_) <;> (repeat' with_reducible apply And.intro) <;> try exact sd)); (try first | refine XK.p hlv ok127 ?_ | refine XK.gp hlv ok127 ?_ | refine XK.p hli ok127 ?_ | refine XK.gp hli ok127 ?_ | refine XK.p hfl ok196 ?_ | refine XK.gp hfl ok196 ?_ | refine XK.p hsv ok198 ?_ | refine XK.gp hsv ok198 ?_ | refine XK.p hsl ok126 ?_ | refine XK.gp hsl ok126 ?_ | refine XK.gs (DB false) ?_ | refine XK.gs (DI .i64 0) ?_))
    all_goals exact ret _ _ (by rfl)
  · have hlv := hlab _ (right_shape hr).1
    have hsv := hsec _ (right_shape hr).1
    have hlvl := hle (.mk vk vv vks)
    rw [own3] at ret
    generalize labN vs ar 5 (.mk vk vv vks) = lv at *
    have hsl := labelSecretS lv hlvl
    generalize secL lv = sl at *
    simp only at hsv
    generalize secE vs ar 5 (.mk vk vv vks) = sv at *
    cases strict <;> cases sv <;> cases sl
    all_goals
      refine dcZ Tryz.func188 ?_
      simp (maxSteps := 9999999) only [go_sem]
      iterate 9 ((try (refine drvZ Tryz.func188 ?_; simp (maxSteps := 9999999) only [go_sem])); (try ((with_reducible refine And.intro ?_ ?_) <;> (repeat' with_reducible apply And.intro) <;> try exact sd)); (try first | refine XK.p hlv ok127 ?_ | refine XK.gp hlv ok127 ?_ | refine XK.p hsv ok198 ?_ | refine XK.gp hsv ok198 ?_ | refine XK.p hsl ok126 ?_ | refine XK.gp hsl ok126 ?_ | refine XK.gs (DB false) ?_ | refine XK.gs (DI .i64 0) ?_))
    all_goals exact ret _ _ (by rfl)
  · obtain ⟨hv1, hv2⟩ := CtD.val_none hs
    cases hv2
    rw [own4] at ret
    cases strict
    all_goals
      refine dcZ Tryz.func188 ?_
      simp (maxSteps := 9999999) only [go_sem]
      iterate 9 ((try (refine drvZ Tryz.func188 ?_; simp (maxSteps := 9999999) only [go_sem])); (try ((with_reducible refine And.intro ?_ ?_) <;> (repeat' with_reducible apply And.intro) <;> try exact sd)); (try first | refine XK.gs (DB false) ?_ | refine XK.gs (DI .i64 0) ?_))
    all_goals exact ret _ _ (by rfl)
end Go.Proofs.YtehmajhoaibphaaGreat.CtR
