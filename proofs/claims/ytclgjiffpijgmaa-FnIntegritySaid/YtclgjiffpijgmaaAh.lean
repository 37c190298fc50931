/- Contracts of functions of the program, one behind the other, as plain data: what each call returns and which blocks it leaves. -/
import Derived.Test.YtclgjiffpijgmaaFacts
import Derived.Test.YtclgjiffpijgmaaAd
import Derived.Test.YtclgjiffpijgmaaAe
import Derived.Test.YtclgjiffpijgmaaAf
import Derived.Test.YtclgjiffpijgmaaAg
set_option linter.unusedVariables false
set_option linter.unusedSimpArgs false
set_option maxHeartbeats 16000000
set_option maxRecDepth 100000
namespace Go.Proofs.Ytclgjiffpijgmaa.CtD
open Go Go.CT CtF CtR

/-- What is asked of a drawn program that may be invalid. -/
structure SmP (p : Pg) : Prop where
  nv : p.vars.length ≤ 13
  na : p.arrays.length ≤ 2
  nb : p.body.length ≤ 4
  sz : ∀ k, lsize k p.body ≤ 1000
def muR (bs : List Int) (n : Nat) (r : D) (h : List (Option (List C))) : Prop := ∃ p : Pg, r = .agg p.cells ∧ SmP p ∧ rdL bs n 5 h
theorem RetOb.prK {R : D → List (Option (List C)) → Prop} {p : Pg} {hp : Hp} {k0 k1 k2 nv na nb : Nat} {rc : List C} (hR : R (.agg p.cells) [some rc]) (hrc : ∀ c ∈ rc, kf c = true)
    (hz : hp 0 = some (some rc)) (h0 : hp k0 = some (some (p.vars.map I64))) (h1 : hp k1 = some (some (p.arrays.map I64))) (h2 : hp k2 = some (some (stC p.body))) (hv : nv = p.vars.length) (ha : na = p.arrays.length) (hb : nb = p.body.length)
    (hne : 0 ≠ k0 ∧ 0 ≠ k1 ∧ 0 ≠ k2) : RetOb 1 R (.agg [.msl k0 1 0 nv, .msl k1 1 0 na, .msl k2 11 0 nb]) hp := by
  subst hv ha hb
  obtain ⟨vs, ar, bd⟩ := p
  obtain ⟨n0, n1, n2⟩ := hne
  refine RetOb.ofQ (fun j => if j = 0 then some 0 else none) [k0, k1, k2] _ [some rc] ?_ hR (by simp)
  have e4 : ∀ {hT hS : Hp} {r : Nat → Option Nat} {fz : List Nat}, CMs hT r hS fz rc rc = True := eq_true (CMs.kf hrc)
  have g1 : (St1.cellsL bd).flatten = stC bd := by rw [St1.cellsL_eq]; rfl
  have g2 : ∀ x ∈ St1.cellsL bd, x.length = 11 := fun x hx => by rw [St1.cellsL_eq] at hx; obtain ⟨e, _, rfl⟩ := List.mem_map.1 hx; exact St1.cells_len e
  have g3 : ∀ x ∈ St1.cellsL bd, ∀ c ∈ x, kf c = true := fun x hx => by rw [St1.cellsL_eq] at hx; obtain ⟨e, _, rfl⟩ := List.mem_map.1 hx; exact st_kf e
  simp [enumL, DM, DMs, CM, CMs, HpOK, LowOK, hOf, upd, Pg.cells, isI, flat_I, kf, e4, hz, h0, h1, h2, g1, St1.cellsL_length, n0, n1, n2]
  exact ⟨g2, g3⟩
theorem lsize_cons (k : Nat) (s : St1) (l : List St1) : lsize k (s :: l) = tsize k s + lsize k l := by simp [lsize]
theorem tsize_head (k : Nat) (a a' t t' : Int) (x x' v v' : Ex) (c c' : Int) (b e : List St1) : tsize k (.mk a t x v c b e) = tsize k (.mk a' t' x' v' c' b e) := by cases k <;> rfl
theorem DrP.smP {p : Pg} (h : DrP p) : SmP p := ⟨by have := h.nv; omega, h.na, h.nb, fun k => by
  have h1 := lsize_sm 2 k p.body h.sm
  have h2 : p.body.length * 9 ^ 2 ≤ 4 * 9 ^ 2 := Nat.mul_le_mul_right _ h.nb
  omega⟩
theorem stC_cons (s : St1) (l : List St1) : stC (s :: l) = s.cells ++ stC l := by simp [stC]
theorem stC_nil : stC [] = [] := rfl

theorem l2Mutate (bs : List Int) (n : Nat) (p : Pg) (hb : Fits .u8 bs) (hl : bs.length ≤ 2000) (hn : n ≤ 274877906944) (hp : DrP p) : DC Try.prog 69 [.c (.ptr 0 0), .agg p.cells] [some (rdr bs n)] (muR bs n) := by
  have hmx := mx_eq
  have hsm := hp.smP
  have hcp := l2Copy p 2 (by have := hp.nv; omega) (by have := hp.na; omega) (by have := hp.nb; omega) hp.sm
  have hnum := fun n xs h1 h2 h3 => numO bs n xs hb hl h1 h2 h3
  generalize hR : muR bs n = R
  obtain ⟨vs, ar, bd⟩ := p
  have hv5 : vs.length ≤ 5 := hp.nv
  have ha2 : ar.length ≤ 2 := hp.na
  have hb4 : bd.length ≤ 4 := hp.nb
  have hfin : ∀ (k0 nv na nb : Nat) (n' : Nat) (va' : List Int) (bd' : List St1) (hp : Hp), va'.length ≤ 13 → bd'.length ≤ 4 → (∀ k, lsize k bd' = lsize k bd) → n ≤ n' → n' ≤ n + 5 → hp 0 = some (some (rdr bs n')) → hp k0 = some (some (va'.map I64)) → hp 194 = some (some (ar.map I64)) → hp 195 = some (some (stC bd')) → nv = va'.length → na = ar.length → nb = bd'.length →
      0 ≠ k0 → RetOb 1 R (.agg [.msl k0 1 0 nv, .msl 194 1 0 na, .msl 195 11 0 nb]) hp := fun k0 nv na nb n' va' bd' hp g1 g1b g1c g2 g3 g4 g5 g6 g7 g8 g9 g10 e4 =>
    RetOb.prK (p := ⟨va', ar, bd'⟩) (by rw [← hR]; exact ⟨⟨va', ar, bd'⟩, rfl, ⟨g1, ha2, g1b, fun k => by rw [g1c]; exact hsm.sz k⟩, n', g2, g3, rfl⟩) (rdr_kf bs n') g4 g5 g6 g7 g8 g9 g10 ⟨e4, by decide, by decide⟩
  refine dcZ Try.func69 ?_
  simp (maxSteps := 9999999) only [go_sem, rdr]
  ((try (refine drvZ Try.func69 ?_; simp (maxSteps := 9999999) only [go_sem, rdr])); (try ((with_reducible refine And.intro ?_ ?_) <;> (repeat' with_reducible apply And.intro) <;> try exact sd)))
  refine XK.callG [] hcp ok114 (fun i' x h => by simp at h) (hbT ()) (fun d h' ⟨_, e⟩ => by subst e; simp) ?_
  rintro _ _ ⟨rfl, rfl⟩ _
  iterate 3 ((try (refine drvZ Try.func69 ?_; simp (maxSteps := 9999999) only [go_sem, renCs_I, renCs_stC, rdr])); (try ((with_reducible refine And.intro ?_ ?_) <;> (repeat' with_reducible apply And.intro) <;> try exact sd)))
  refine XK.callG [0] (pick bs n 60 hb hl (by omega) (by simp only [InK]; omega)) ok58 (hhp_one rfl) (hbT ()) (fun d h' ⟨v, _, _, e⟩ => by subst e; simp) ?_
  rintro _ _ ⟨v, rfl, hpv, rfl⟩ _
  have hpv : v = 0 ∨ v = 1 ∨ v = 2 ∨ v = 3 ∨ v = 4 ∨ v = 5 ∨ v = 6 ∨ (v ≠ 0 ∧ v ≠ 1 ∧ v ≠ 2 ∧ v ≠ 3 ∧ v ≠ 4 ∧ v ≠ 5 ∧ v ≠ 6) := by omega
  rcases hpv with rfl | rfl | rfl | rfl | rfl | rfl | rfl | ⟨h0, h1, h2, h3, h4, h5, h6⟩
  · cases vs with
    | nil =>
      have hz : ((0 : Int) < 0) = False := eq_false (by omega)
      iterate 5 ((try (refine drvZ Try.func69 ?_; simp (maxSteps := 9999999) only [go_sem, rdr, Int.natCast_zero, hz])); (try ((with_reducible refine And.intro ?_ ?_) <;> (repeat' with_reducible apply And.intro) <;> try exact sd)))
      exact hfin 193 _ _ _ (n + 1) [] bd _ (by first | omega | (simp; omega) | simp) (by first | omega | (simp; omega) | simp) (fun _ => rfl) (by omega) (by omega) rfl rfl rfl rfl rfl rfl rfl (by decide)
    | cons x r =>
      have hv5 : r.length + 1 ≤ 5 := hv5
      have hz : ((0 : Int) < (r.length : Int) + 1) = True := eq_true (by omega)
      iterate 5 ((try (refine drvZ Try.func69 ?_; simp (maxSteps := 9999999) only [go_sem, rdr, hz])); (try ((with_reducible refine And.intro ?_ ?_) <;> (repeat' with_reducible apply And.intro) <;> try exact sd)))
      refine XK.callG [0] (l1Draw bs (n + 1) hb hl (by omega)) ok115 (hhp_one rfl) (hbT ()) (fun d h' ⟨_, _, _, _, _, _, e⟩ => by subst e; simp) ?_ (fun _ => ⟨by kernel_rfl, _, _, ⟨0, rfl, by simp [InK], n + 1, by omega, by omega, rfl⟩, by simp⟩)
      rintro _ _ ⟨w, rfl, hw, n', hn1, hn2, rfl⟩ _
      iterate 5 ((try (refine drvZ Try.func69 ?_; simp (maxSteps := 9999999) only [go_sem, rdr, hz])); (try ((with_reducible refine And.intro ?_ ?_) <;> (repeat' with_reducible apply And.intro) <;> try exact sd)))
      exact hfin 193 _ _ _ n' (w :: r) bd _ (by first | omega | (simp; omega) | simp) (by omega) (fun _ => rfl) (by omega) (by omega) rfl rfl rfl rfl rfl rfl rfl (by decide)
  · iterate 5 ((try (refine drvZ Try.func69 ?_; simp (maxSteps := 9999999) only [go_sem, rdr])); (try ((with_reducible refine And.intro ?_ ?_) <;> (repeat' with_reducible apply And.intro) <;> try exact sd)))
    refine Go.loopQ (fun l : List Int => [(4, .c (.ptr 65 0)), (5, .c (.ptr 257 0))])
      (fun l => [(0, some (rdr bs ((n + 1 : Nat) : Int))), (65, some [.v (.slice none 0 0), .v (.slice none 0 0), .v (.slice none 0 0)]), (257, some [.msl 67 1 0 l.length, .msl 194 1 0 ar.length, .msl 195 11 0 bd.length]), (67, some (l.map I64)), (194, some (ar.map I64)), (195, some (stC bd))])
      4096 (fun l => l.length ≤ 13) (fun l => 13 - l.length) ?_ vs (fun j => if j = 67 then some 193 else some j) [] _ (by omega) ?_
    · intro l hi again
      rcases Nat.lt_or_ge l.length 13 with hlt | hge
      · have hz : ((l.length : Int) ≤ 12) = True := eq_true (by omega)
        refine drvL Try.func69 ?_
        simp (maxSteps := 9999999) only [go_sem, rdr, hz]
        iterate 4 ((try (refine drvZ Try.func69 ?_; simp (maxSteps := 9999999) only [go_sem, rdr, hz])); (try ((with_reducible refine And.intro ?_ ?_) <;> (repeat' with_reducible apply And.intro) <;> try exact sd)))
        refine again (l ++ [1]) (fun j => if j = 67 then some 4544 else some j) [] _ (by simp; omega) (by simp; omega) ?_
        simp (maxSteps := 9999999) only [go_sem, TmOK, DM, DMs, CM, CMs, forall_eq, exists_eq_left, Mq, HpOK, LowOK, rdr, i_snoc]
        simp
        exact ⟨CMs.kf (kf_app (kf_I _) (by simp [kf])), CMs.kf (kf_I _), CMs.kf (stC_kf _)⟩
      · have hz : ((l.length : Int) ≤ 12) = False := eq_false (by omega)
        refine drvL Try.func69 ?_
        simp (maxSteps := 9999999) only [go_sem, rdr, hz]
        iterate 4 ((try (refine drvZ Try.func69 ?_; simp (maxSteps := 9999999) only [go_sem, rdr, hz])); (try ((with_reducible refine And.intro ?_ ?_) <;> (repeat' with_reducible apply And.intro) <;> try exact sd)))
        exact hfin 67 _ _ _ (n + 1) l bd _ (by omega) (by omega) (fun _ => rfl) (by omega) (by omega) rfl rfl rfl rfl rfl rfl rfl (by decide)
    · simp (maxSteps := 9999999) only [go_sem, TmOK, DM, DMs, CM, CMs, forall_eq, exists_eq_left, Mq, HpOK, LowOK, rdr]
      simp
      exact ⟨CMs.kf (kf_I _), CMs.kf (kf_I _), CMs.kf (stC_kf _)⟩
  · cases bd with
    | nil =>
      have hz : ((0 : Int) < 0) = False := eq_false (by omega)
      iterate 9 ((try (refine drvZ Try.func69 ?_; simp (maxSteps := 9999999) only [go_sem, rdr, Int.natCast_zero, hz])); (try ((with_reducible refine And.intro ?_ ?_) <;> (repeat' with_reducible apply And.intro) <;> try exact sd)))
      exact hfin 193 _ _ _ (n + 1) vs [] _ (by first | omega | (simp; omega) | simp) (by first | omega | (simp; omega) | simp) (fun _ => rfl) (by omega) (by omega) rfl rfl rfl rfl rfl rfl rfl (by decide)
    | cons s r =>
      obtain ⟨k, t, ⟨ik, iv, iks⟩, ⟨vk, vv, vks⟩, c, b, e⟩ := s
      have hb4 : r.length + 1 ≤ 4 := hb4
      have hz : ((0 : Int) < (r.length : Int) + 1) = True := eq_true (by omega)
      iterate 9 ((try (refine drvZ Try.func69 ?_; simp (maxSteps := 9999999) only [go_sem, rdr, hz, stC_cons])); (try ((with_reducible refine And.intro ?_ ?_) <;> (repeat' with_reducible apply And.intro) <;> try exact sd)))
      refine XK.callG [0, 1473] (hnum (n + 1) [0, 6, 1, 5, 2] (by omega) (by decide) (by decide)) ok100 (hhp2 rfl rfl) (hbT ()) (fun d h' ⟨_, _, _, e⟩ => by subst e; simp) ?_ (fun _ => ⟨by kernel_rfl, _, _, ⟨1, rfl, by simp, rfl⟩, by simp⟩)
      rintro _ _ ⟨w, rfl, hw, rfl⟩ _
      clear hw
      iterate 5 ((try (refine drvZ Try.func69 ?_; simp (maxSteps := 9999999) only [go_sem, rdr, hz, stC_cons])); (try ((with_reducible refine And.intro ?_ ?_) <;> (repeat' with_reducible apply And.intro) <;> try exact sd)))
      exact hfin 193 _ _ _ (n + 2) vs ((.mk w t (.mk ik iv iks) (.mk vk vv vks) c b e) :: r) _ (by first | omega | (simp; omega) | simp) (by first | omega | (simp; omega) | simp) (fun _ => by rw [lsize_cons, lsize_cons]; exact congrArg (· + _) (tsize_head ..)) (by omega) (by omega) rfl rfl rfl rfl rfl rfl rfl (by decide)
  · match bd, hb4 with
    | [], hb4 =>
      have hz : ((0 : Int) < 0) = False := eq_false (by omega)
      iterate 9 ((try (refine drvZ Try.func69 ?_; simp (maxSteps := 9999999) only [go_sem, rdr, Int.natCast_zero, hz])); (try ((with_reducible refine And.intro ?_ ?_) <;> (repeat' with_reducible apply And.intro) <;> try exact sd)))
      exact hfin 193 _ _ _ (n + 1) vs [] _ (by first | omega | (simp; omega) | simp) (by first | omega | (simp; omega) | simp) (fun _ => rfl) (by omega) (by omega) rfl rfl rfl rfl rfl rfl rfl (by decide)
    | [a], hb4 =>
      obtain ⟨k, t, ⟨ik, iv, iks⟩, ⟨vk, vv, vks⟩, c0, b0, e0⟩ := a
      iterate 9 ((try (refine drvZ Try.func69 ?_; simp (maxSteps := 9999999) only [go_sem, rdr, stC_cons, stC_nil, Int.reduceSub, Int.natCast_zero])); (try ((with_reducible refine And.intro ?_ ?_) <;> (repeat' with_reducible apply And.intro) <;> try exact sd)))
      refine XK.callG [0, 1729] (hnum (n + 1) [-1, 12, 1, 9223372036854775807] (by omega) (by decide) (by decide)) ok100 (hhp2 rfl rfl) (hbT ()) (fun d h' ⟨_, _, _, e⟩ => by subst e; simp) ?_ (fun _ => ⟨by kernel_rfl, _, _, ⟨1, rfl, by simp, rfl⟩, by simp⟩)
      rintro _ _ ⟨w, rfl, hw, rfl⟩ _
      clear hw
      iterate 5 ((try (refine drvZ Try.func69 ?_; simp (maxSteps := 9999999) only [go_sem, rdr, stC_cons, stC_nil, Int.reduceSub, Int.natCast_zero])); (try ((with_reducible refine And.intro ?_ ?_) <;> (repeat' with_reducible apply And.intro) <;> try exact sd)))
      exact hfin 193 _ _ _ (n + 2) vs [(.mk k w (.mk ik iv iks) (.mk vk vv vks) c0 b0 e0)] _ (by first | omega | (simp; omega) | simp) (by first | omega | (simp; omega) | simp) (fun q => by simp only [lsize_cons, tsize_head q k k w t (.mk ik iv iks) (.mk ik iv iks) (.mk vk vv vks) (.mk vk vv vks) c0 c0 b0 e0]) (by omega) (by omega) rfl rfl rfl rfl rfl rfl rfl (by decide)
    | [a, b], hb4 =>
      obtain ⟨k, t, ⟨ik, iv, iks⟩, ⟨vk, vv, vks⟩, c0, b0, e0⟩ := b
      obtain ⟨ka, ta, ⟨ika, iva, iksa⟩, ⟨vka, vva, vksa⟩, ca, ba, ea⟩ := a
      iterate 9 ((try (refine drvZ Try.func69 ?_; simp (maxSteps := 9999999) only [go_sem, rdr, stC_cons, stC_nil, Int.reduceSub, Int.natCast_zero])); (try ((with_reducible refine And.intro ?_ ?_) <;> (repeat' with_reducible apply And.intro) <;> try exact sd)))
      refine XK.callG [0, 1729] (hnum (n + 1) [-1, 12, 1, 9223372036854775807] (by omega) (by decide) (by decide)) ok100 (hhp2 rfl rfl) (hbT ()) (fun d h' ⟨_, _, _, e⟩ => by subst e; simp) ?_ (fun _ => ⟨by kernel_rfl, _, _, ⟨1, rfl, by simp, rfl⟩, by simp⟩)
      rintro _ _ ⟨w, rfl, hw, rfl⟩ _
      clear hw
      iterate 5 ((try (refine drvZ Try.func69 ?_; simp (maxSteps := 9999999) only [go_sem, rdr, stC_cons, stC_nil, Int.reduceSub, Int.natCast_zero])); (try ((with_reducible refine And.intro ?_ ?_) <;> (repeat' with_reducible apply And.intro) <;> try exact sd)))
      exact hfin 193 _ _ _ (n + 2) vs [(.mk ka ta (.mk ika iva iksa) (.mk vka vva vksa) ca ba ea), (.mk k w (.mk ik iv iks) (.mk vk vv vks) c0 b0 e0)] _ (by first | omega | (simp; omega) | simp) (by first | omega | (simp; omega) | simp) (fun q => by simp only [lsize_cons, tsize_head q k k w t (.mk ik iv iks) (.mk ik iv iks) (.mk vk vv vks) (.mk vk vv vks) c0 c0 b0 e0]) (by omega) (by omega) rfl rfl rfl rfl rfl rfl rfl (by decide)
    | [a, b, c], hb4 =>
      obtain ⟨k, t, ⟨ik, iv, iks⟩, ⟨vk, vv, vks⟩, c0, b0, e0⟩ := c
      obtain ⟨ka, ta, ⟨ika, iva, iksa⟩, ⟨vka, vva, vksa⟩, ca, ba, ea⟩ := a
      obtain ⟨kb, tb, ⟨ikb, ivb, iksb⟩, ⟨vkb, vvb, vksb⟩, cb, bb, eb⟩ := b
      iterate 9 ((try (refine drvZ Try.func69 ?_; simp (maxSteps := 9999999) only [go_sem, rdr, stC_cons, stC_nil, Int.reduceSub, Int.natCast_zero])); (try ((with_reducible refine And.intro ?_ ?_) <;> (repeat' with_reducible apply And.intro) <;> try exact sd)))
      refine XK.callG [0, 1729] (hnum (n + 1) [-1, 12, 1, 9223372036854775807] (by omega) (by decide) (by decide)) ok100 (hhp2 rfl rfl) (hbT ()) (fun d h' ⟨_, _, _, e⟩ => by subst e; simp) ?_ (fun _ => ⟨by kernel_rfl, _, _, ⟨1, rfl, by simp, rfl⟩, by simp⟩)
      rintro _ _ ⟨w, rfl, hw, rfl⟩ _
      clear hw
      iterate 5 ((try (refine drvZ Try.func69 ?_; simp (maxSteps := 9999999) only [go_sem, rdr, stC_cons, stC_nil, Int.reduceSub, Int.natCast_zero])); (try ((with_reducible refine And.intro ?_ ?_) <;> (repeat' with_reducible apply And.intro) <;> try exact sd)))
      exact hfin 193 _ _ _ (n + 2) vs [(.mk ka ta (.mk ika iva iksa) (.mk vka vva vksa) ca ba ea), (.mk kb tb (.mk ikb ivb iksb) (.mk vkb vvb vksb) cb bb eb), (.mk k w (.mk ik iv iks) (.mk vk vv vks) c0 b0 e0)] _ (by first | omega | (simp; omega) | simp) (by first | omega | (simp; omega) | simp) (fun q => by simp only [lsize_cons, tsize_head q k k w t (.mk ik iv iks) (.mk ik iv iks) (.mk vk vv vks) (.mk vk vv vks) c0 c0 b0 e0]) (by omega) (by omega) rfl rfl rfl rfl rfl rfl rfl (by decide)
    | [a, b, c, d], hb4 =>
      obtain ⟨k, t, ⟨ik, iv, iks⟩, ⟨vk, vv, vks⟩, c0, b0, e0⟩ := d
      obtain ⟨ka, ta, ⟨ika, iva, iksa⟩, ⟨vka, vva, vksa⟩, ca, ba, ea⟩ := a
      obtain ⟨kb, tb, ⟨ikb, ivb, iksb⟩, ⟨vkb, vvb, vksb⟩, cb, bb, eb⟩ := b
      obtain ⟨kc, tc, ⟨ikc, ivc, iksc⟩, ⟨vkc, vvc, vksc⟩, cc, bc, ec⟩ := c
      iterate 9 ((try (refine drvZ Try.func69 ?_; simp (maxSteps := 9999999) only [go_sem, rdr, stC_cons, stC_nil, Int.reduceSub, Int.natCast_zero])); (try ((with_reducible refine And.intro ?_ ?_) <;> (repeat' with_reducible apply And.intro) <;> try exact sd)))
      refine XK.callG [0, 1729] (hnum (n + 1) [-1, 12, 1, 9223372036854775807] (by omega) (by decide) (by decide)) ok100 (hhp2 rfl rfl) (hbT ()) (fun d h' ⟨_, _, _, e⟩ => by subst e; simp) ?_ (fun _ => ⟨by kernel_rfl, _, _, ⟨1, rfl, by simp, rfl⟩, by simp⟩)
      rintro _ _ ⟨w, rfl, hw, rfl⟩ _
      clear hw
      iterate 5 ((try (refine drvZ Try.func69 ?_; simp (maxSteps := 9999999) only [go_sem, rdr, stC_cons, stC_nil, Int.reduceSub, Int.natCast_zero])); (try ((with_reducible refine And.intro ?_ ?_) <;> (repeat' with_reducible apply And.intro) <;> try exact sd)))
      exact hfin 193 _ _ _ (n + 2) vs [(.mk ka ta (.mk ika iva iksa) (.mk vka vva vksa) ca ba ea), (.mk kb tb (.mk ikb ivb iksb) (.mk vkb vvb vksb) cb bb eb), (.mk kc tc (.mk ikc ivc iksc) (.mk vkc vvc vksc) cc bc ec), (.mk k w (.mk ik iv iks) (.mk vk vv vks) c0 b0 e0)] _ (by first | omega | (simp; omega) | simp) (by first | omega | (simp; omega) | simp) (fun q => by simp only [lsize_cons, tsize_head q k k w t (.mk ik iv iks) (.mk ik iv iks) (.mk vk vv vks) (.mk vk vv vks) c0 c0 b0 e0]) (by omega) (by omega) rfl rfl rfl rfl rfl rfl rfl (by decide)
  · cases bd with
    | nil =>
      have hz : ((0 : Int) < 0) = False := eq_false (by omega)
      iterate 9 ((try (refine drvZ Try.func69 ?_; simp (maxSteps := 9999999) only [go_sem, rdr, Int.natCast_zero, hz])); (try ((with_reducible refine And.intro ?_ ?_) <;> (repeat' with_reducible apply And.intro) <;> try exact sd)))
      exact hfin 193 _ _ _ (n + 1) vs [] _ (by first | omega | (simp; omega) | simp) (by first | omega | (simp; omega) | simp) (fun _ => rfl) (by omega) (by omega) rfl rfl rfl rfl rfl rfl rfl (by decide)
    | cons s r =>
      obtain ⟨k, t, ⟨ik, iv, iks⟩, ⟨vk, vv, vks⟩, c, b, e⟩ := s
      have hb4 : r.length + 1 ≤ 4 := hb4
      have hz : ((0 : Int) < (r.length : Int) + 1) = True := eq_true (by omega)
      iterate 9 ((try (refine drvZ Try.func69 ?_; simp (maxSteps := 9999999) only [go_sem, rdr, hz, stC_cons])); (try ((with_reducible refine And.intro ?_ ?_) <;> (repeat' with_reducible apply And.intro) <;> try exact sd)))
      refine XK.callG [0, 1729] (hnum (n + 1) [-1, 256, 12, 1] (by omega) (by decide) (by decide)) ok100 (hhp2 rfl rfl) (hbT ()) (fun d h' ⟨_, _, _, e⟩ => by subst e; simp) ?_ (fun _ => ⟨by kernel_rfl, _, _, ⟨1, rfl, by simp, rfl⟩, by simp⟩)
      rintro _ _ ⟨w, rfl, hw, rfl⟩ _
      clear hw
      iterate 5 ((try (refine drvZ Try.func69 ?_; simp (maxSteps := 9999999) only [go_sem, rdr, hz, stC_cons])); (try ((with_reducible refine And.intro ?_ ?_) <;> (repeat' with_reducible apply And.intro) <;> try exact sd)))
      exact hfin 193 _ _ _ (n + 2) vs ((.mk k t (.mk ik iv iks) (.mk vk w vks) c b e) :: r) _ (by first | omega | (simp; omega) | simp) (by first | omega | (simp; omega) | simp) (fun _ => by rw [lsize_cons, lsize_cons]; exact congrArg (· + _) (tsize_head ..)) (by omega) (by omega) rfl rfl rfl rfl rfl rfl rfl (by decide)
  · cases bd with
    | nil =>
      have hz : ((0 : Int) < 0) = False := eq_false (by omega)
      iterate 9 ((try (refine drvZ Try.func69 ?_; simp (maxSteps := 9999999) only [go_sem, rdr, Int.natCast_zero, hz])); (try ((with_reducible refine And.intro ?_ ?_) <;> (repeat' with_reducible apply And.intro) <;> try exact sd)))
      exact hfin 193 _ _ _ (n + 1) vs [] _ (by first | omega | (simp; omega) | simp) (by first | omega | (simp; omega) | simp) (fun _ => rfl) (by omega) (by omega) rfl rfl rfl rfl rfl rfl rfl (by decide)
    | cons s r =>
      obtain ⟨k, t, ⟨ik, iv, iks⟩, ⟨vk, vv, vks⟩, c, b, e⟩ := s
      have hb4 : r.length + 1 ≤ 4 := hb4
      have hz : ((0 : Int) < (r.length : Int) + 1) = True := eq_true (by omega)
      iterate 9 ((try (refine drvZ Try.func69 ?_; simp (maxSteps := 9999999) only [go_sem, rdr, hz, stC_cons])); (try ((with_reducible refine And.intro ?_ ?_) <;> (repeat' with_reducible apply And.intro) <;> try exact sd)))
      refine XK.callG [0, 1857] (hnum (n + 1) [1, 4, -1, 2] (by omega) (by decide) (by decide)) ok100 (hhp2 rfl rfl) (hbT ()) (fun d h' ⟨_, _, _, e⟩ => by subst e; simp) ?_ (fun _ => ⟨by kernel_rfl, _, _, ⟨1, rfl, by simp, rfl⟩, by simp⟩)
      rintro _ _ ⟨w, rfl, hw, rfl⟩ _
      clear hw
      iterate 5 ((try (refine drvZ Try.func69 ?_; simp (maxSteps := 9999999) only [go_sem, rdr, hz, stC_cons])); (try ((with_reducible refine And.intro ?_ ?_) <;> (repeat' with_reducible apply And.intro) <;> try exact sd)))
      exact hfin 193 _ _ _ (n + 2) vs ((.mk k t (.mk ik iv iks) (.mk vk vv vks) w b e) :: r) _ (by first | omega | (simp; omega) | simp) (by first | omega | (simp; omega) | simp) (fun _ => by rw [lsize_cons, lsize_cons]; exact congrArg (· + _) (tsize_head ..)) (by omega) (by omega) rfl rfl rfl rfl rfl rfl rfl (by decide)
  · iterate 8 ((try (refine drvZ Try.func69 ?_; simp (maxSteps := 9999999) only [go_sem, rdr])); (try ((with_reducible refine And.intro ?_ ?_) <;> (repeat' with_reducible apply And.intro) <;> try exact sd)))
    refine RetOb.ofQ (fun j => if j = 0 then some 0 else none) [] (.agg (Pg.cells ⟨[], [], []⟩)) [some (rdr bs ((n + 1 : Nat) : Int))] ?_ ?_ (by simp)
    · simp [enumL, hOf, DM, DMs, CM, CMs, HpOK, LowOK, upd, rdr, Pg.cells, isI, kf, St1.cellsL]
    · rw [← hR]; exact ⟨⟨[], [], []⟩, rfl, ⟨by simp, by simp, by simp, fun k => by simp [lsize]⟩, n + 1, by omega, by omega, rfl⟩
  · have e0 : (v == 0) = false := by simp [h0]
    have e1 : (v == 1) = false := by simp [h1]
    have e2 : (v == 2) = false := by simp [h2]
    have e3 : (v == 3) = false := by simp [h3]
    have e4 : (v == 4) = false := by simp [h4]
    have e5 : (v == 5) = false := by simp [h5]
    have e6 : (v == 6) = false := by simp [h6]
    iterate 8 ((try (refine drvZ Try.func69 ?_; simp (maxSteps := 9999999) only [go_sem, rdr, h0, h1, h2, h3, h4, h5, h6, e0, e1, e2, e3, e4, e5, e6])); (try ((with_reducible refine And.intro ?_ ?_) <;> (repeat' with_reducible apply And.intro) <;> try exact sd)))
    exact hfin 193 _ _ _ (n + 1) vs bd _ (by omega) (by omega) (fun _ => rfl) (by omega) (by omega) rfl rfl rfl rfl rfl rfl rfl (by decide)
end Go.Proofs.Ytclgjiffpijgmaa.CtD

namespace Go.Proofs.Ytclgjiffpijgmaa.CtD
open Go Go.CT CtF CtR

/-- A drawn program and memory, either of them perhaps invalid. -/
def dmR (r : D) (h : List (Option (List C))) : Prop := ∃ (p : Pg) (m : Mm), r = .tup [.agg p.cells, .agg m.cells] ∧ SmP p ∧ SmM m ∧ h = []
theorem fits_take {k : IntKind} {bs : List Int} (h : Fits k bs) (n : Nat) : Fits k (bs.take n) := fun x hx => h x (List.mem_of_mem_take hx)
theorem renCs_rdr (r : Nat → Nat) (bs : List Int) (n : Int) : renCs r (rdr bs n) = rdr bs n := renCs_kf r _ (rdr_kf bs n)
theorem prog_len {p : Pg} (h : progOK p = true) : 1 ≤ p.vars.length ∧ p.vars.length ≤ 12 ∧ p.arrays.length ≤ 2 := by
  simp only [progOK, headsOK, Bool.and_eq_true, decide_eq_true_eq] at h
  obtain ⟨⟨⟨⟨⟨_, h1⟩, h2⟩, h3⟩, _⟩, _⟩ := h
  omega

theorem drawMemoryValid (bs : List Int) (hb : Fits .u8 bs) (hl : bs.length ≤ mx) : DC Try.prog 63 [bytesD bs] [] dmR := by
  have hmx := mx_eq
  have hop := l17Open bs hl
  have hb' := fits_take hb 2000
  have hl' : (bs.take 2000).length ≤ 2000 := by rw [List.length_take]; omega
  generalize hR : dmR = R
  generalize hbs : bs.take 2000 = b2 at *
  unfold bytesD
  unfold bytesD at hop
  refine dcZ Try.func63 ?_
  simp (maxSteps := 9999999) only [go_sem]
  ((try (refine drvZ Try.func63 ?_; simp (maxSteps := 9999999) only [go_sem])); (try ((with_reducible refine And.intro ?_ ?_) <;> (repeat' with_reducible apply And.intro) <;> try exact sd)))
  refine XK.callG [] hop ok54 (fun i' x h => by simp at h) (hbT ()) (fun d h' ⟨_, e⟩ => by subst e; simp) ?_
  rintro _ _ ⟨rfl, rfl⟩ _
  iterate 2 ((try (refine drvZ Try.func63 ?_; simp (maxSteps := 9999999) only [go_sem, renCs_rdr])); (try ((with_reducible refine And.intro ?_ ?_) <;> (repeat' with_reducible apply And.intro) <;> try exact sd)))
  have hpr := l2Program b2 0 hb' hl' (by omega)
  refine XK.callG [192] hpr ok55 (hhp_one (by simp [upd, renCs_rdr])) (hbT ()) (fun d h' ⟨_, _, _, _, _, _, e⟩ => by subst e; simp) ?_
  rintro _ _ ⟨p, rfl, hp, n1, hn1, hn2, rfl⟩ _
  have hln := prog_len hp.ok
  have hme := l3Memory b2 n1 p hb' hl' (by omega) ⟨hln.1, hln.2.1⟩ hln.2.2
  have hmu := fun n h => l2Mutate b2 n p hb' hl' h hp
  obtain ⟨vs, ar, bd⟩ := p
  iterate 2 ((try (refine drvZ Try.func63 ?_; simp (maxSteps := 9999999) only [go_sem, renCs_rdr])); (try ((with_reducible refine And.intro ?_ ?_) <;> (repeat' with_reducible apply And.intro) <;> try exact sd)))
  refine XK.callG [192] hme ok56 (hhp_one (by simp [upd, renCs_rdr])) (hbT ()) (fun d h' ⟨_, _, _, _, _, _, e⟩ => by subst e; simp) ?_
  rintro _ _ ⟨m, rfl, hm, n2, hn3, hn4, rfl⟩ _
  have hbe := l3Bend b2 n2 m hb' hl' (by omega) (by rw [hm.nv]; exact hm.nv12.2) (by rw [hm.na]; exact hm.na2) (fun a ha => (hm.arr a ha).1)
  obtain ⟨va, arr⟩ := m
  iterate 2 ((try (refine drvZ Try.func63 ?_; simp (maxSteps := 9999999) only [go_sem, renCs_rdr, Mm.cells])); (try ((with_reducible refine And.intro ?_ ?_) <;> (repeat' with_reducible apply And.intro) <;> try exact sd)))
  refine XK.callG [192] hbe ok106 (hhp_one (by simp [upd, renCs_rdr])) (hbT ()) (fun d h' ⟨_, _, _, _, _, _, e⟩ => by subst e; simp) ?_
  rintro _ _ ⟨m2, rfl, hm2, n3, hn5, hn6, rfl⟩ _
  obtain ⟨va2, arr2⟩ := m2
  iterate 2 ((try (refine drvZ Try.func63 ?_; simp (maxSteps := 9999999) only [go_sem, renCs_rdr, Mm.cells])); (try ((with_reducible refine And.intro ?_ ?_) <;> (repeat' with_reducible apply And.intro) <;> try exact sd)))
  refine XK.callG [192] (hmu n3 (by omega)) ok69 (hhp_one (by simp [upd, renCs_rdr])) (hbT ()) (fun d h' ⟨_, _, _, _, _, _, e⟩ => by subst e; simp) ?_ (fun _ => ⟨by kernel_rfl, _, _, ⟨⟨[], [], []⟩, rfl, ⟨by simp, by simp, by simp, fun k => by simp [lsize]⟩, n3, by omega, by omega, rfl⟩, by simp⟩)
  rintro _ _ ⟨p2, rfl, hp2, n4, hn7, hn8, rfl⟩ _
  obtain ⟨vs2, ar2, bd2⟩ := p2
  iterate 3 ((try (refine drvZ Try.func63 ?_; simp (maxSteps := 9999999) only [go_sem, renCs_rdr, Mm.cells])); (try ((with_reducible refine And.intro ?_ ?_) <;> (repeat' with_reducible apply And.intro) <;> try exact sd)))
  refine RetOb.ofQ (fun _ => none) [] (.tup [.agg (Pg.cells ⟨vs2, ar2, bd2⟩), .agg (Mm.cells ⟨va2, arr2⟩)]) [] ?_ (by rw [← hR]; exact ⟨_, _, rfl, hp2, hm2, rfl⟩) (by simp)
  simp [enumL, DM, DMs, CM, CMs, HpOK, LowOK, hOf, Pg.cells, Mm.cells, isI]

theorem drawRunProgram (bs : List Int) (hb : Fits .u8 bs) (hl : bs.length ≤ mx) : DC Try.prog 28 [bytesD bs] [] dmR := by
  have hdm := drawMemoryValid bs hb hl
  generalize hR : dmR = R
  have hRR := hR
  unfold bytesD
  unfold bytesD at hdm
  refine dcZ Try.func28 ?_
  simp (maxSteps := 9999999) only [go_sem]
  ((try (refine drvZ Try.func28 ?_; simp (maxSteps := 9999999) only [go_sem])); (try ((with_reducible refine And.intro ?_ ?_) <;> (repeat' with_reducible apply And.intro) <;> try exact sd)))
  refine XK.callG [] hdm ok63 (fun i' x h => by simp at h) (hbT ()) (fun d h' ⟨_, _, _, _, _, e⟩ => by subst e; simp) ?_
  rintro _ _ ⟨⟨vs2, ar2, bd2⟩, ⟨va2, arr2⟩, rfl, hp2, hm2, rfl⟩ _
  iterate 3 ((try (refine drvZ Try.func28 ?_; simp (maxSteps := 9999999) only [go_sem, Mm.cells])); (try ((with_reducible refine And.intro ?_ ?_) <;> (repeat' with_reducible apply And.intro) <;> try exact sd)))
  refine RetOb.ofQ (fun _ => none) [] (.tup [.agg (Pg.cells ⟨vs2, ar2, bd2⟩), .agg (Mm.cells ⟨va2, arr2⟩)]) [] ?_ (by rw [← hR]; exact ⟨_, _, rfl, hp2, hm2, rfl⟩) (by simp)
  simp [enumL, DM, DMs, CM, CMs, HpOK, LowOK, hOf, Pg.cells, Mm.cells, isI]
end Go.Proofs.Ytclgjiffpijgmaa.CtD

namespace Go.Proofs.Ytclgjiffpijgmaa.CtR
open Go Go.CT CtF

/-! Plain laws of runs. -/
theorem memSame_refl (m : Mm) : memSame m m = true := by simp [memSame]
theorem trSame_refl (t : List Ev) : trSame t t = true := (trSame_iff t t).2 rfl
end Go.Proofs.Ytclgjiffpijgmaa.CtR

namespace Go.Proofs.Ytclgjiffpijgmaa.CtR
open Go Go.CT CtF

theorem shape_bd (vs ar : List Int) (b1 b2 : List St1) : ∀ (d : Nat) (e : Ex), shape ⟨vs, ar, b1⟩ d e = shape ⟨vs, ar, b2⟩ d e
  | 0, _ => rfl
  | d + 1, .mk k v ks => by
    have h : shape ⟨vs, ar, b1⟩ d = shape ⟨vs, ar, b2⟩ d := funext (shape_bd vs ar b1 b2 d)
    simp only [shape, h]
    rfl
theorem right_bd (vs ar : List Int) (b1 b2 : List St1) (e : Ex) : right ⟨vs, ar, b1⟩ e = right ⟨vs, ar, b2⟩ e := by simp only [right, shape_bd vs ar b1 b2]
theorem stmtOK_bd (vs ar : List Int) (b1 b2 : List St1) : ∀ (d : Nat) (s : St1), stmtOK ⟨vs, ar, b1⟩ d s = stmtOK ⟨vs, ar, b2⟩ d s
  | 0, _ => rfl
  | d + 1, .mk k t ix v c b e => by
    have h : stmtOK ⟨vs, ar, b1⟩ d = stmtOK ⟨vs, ar, b2⟩ d := funext (stmtOK_bd vs ar b1 b2 d)
    simp only [stmtOK, headOK, right_bd vs ar b1 b2, h]
theorem memOK_of {p : Pg} {m : Mm} (h : MemFits p m) : memOK p.vars p.arrays m = true := by
  simp only [memOK, vals01, arrOK, Bool.and_eq_true, decide_eq_true_eq, List.all_eq_true]
  refine ⟨⟨⟨by rw [h.nv], by rw [h.na]⟩, fun x hx => h.val x hx⟩, fun a ha => ⟨by have := (h.arr a ha).1; omega, fun x hx => (h.arr a ha).2 x hx⟩⟩
theorem runP_of {p : Pg} {m : Mm} (h1 : progOK p = true) (h2 : memOK p.vars p.arrays m = true) : runP p m = ((runL 5 m p.body).1, (runL 5 m p.body).2, true) := runP_true (by rw [h1, h2]; rfl)
theorem runP_out {p : Pg} {m : Mm} (h1 : progOK p = true) (h2 : memOK p.vars p.arrays m = true) : memOK p.vars p.arrays (runL 5 m p.body).1 = true :=
  memOK_of (runL_ok (memFits_of (by rw [h1, h2]; rfl)) (body_of h1).1).1
end Go.Proofs.Ytclgjiffpijgmaa.CtR

namespace Go.Proofs.Ytclgjiffpijgmaa.CtR
open Go Go.CT CtF

/-- The label of an expression. -/
def labB (vs ar : List Int) (k v : Int) : Nat := if k = 2 then (nth vs v).toNat else if k = 3 then (nth ar v).toNat else 0
def labN (vs ar : List Int) : Nat → Ex → Nat
  | 0, _ => 0
  | d + 1, .mk k v ks => (ks.map (labN vs ar d)).foldl (fun a b => a ||| b) (labB vs ar k v)
def lab3 (l : List Int) : Prop := ∀ x ∈ l, 0 ≤ x ∧ x ≤ 3
theorem or3 {a b : Nat} (ha : a ≤ 3) (hb : b ≤ 3) : a ||| b ≤ 3 := by
  have := Nat.or_lt_two_pow (x := a) (y := b) (n := 2) (by omega) (by omega)
  omega
theorem nth_lab {l : List Int} (h : lab3 l) (v : Int) : 0 ≤ nth l v ∧ nth l v ≤ 3 := by
  unfold nth
  rw [List.getD_eq_getElem?_getD]
  cases hx : l[v.toNat]? with
  | none => simp
  | some x => simpa using h x (List.mem_of_getElem? hx)
theorem foldl_or3 : ∀ (l : List Nat) (a : Nat), a ≤ 3 → (∀ x ∈ l, x ≤ 3) → l.foldl (fun a b => a ||| b) a ≤ 3
  | [], a, h, _ => h
  | x :: r, a, h, h2 => foldl_or3 r _ (or3 h (h2 x (by simp))) fun y hy => h2 y (by simp [hy])
theorem labN_le {vs ar : List Int} (h1 : lab3 vs) (h2 : lab3 ar) : ∀ (d : Nat) (e : Ex), labN vs ar d e ≤ 3
  | 0, _ => Nat.zero_le _
  | d + 1, .mk k v ks => by
    refine foldl_or3 _ _ ?_ fun x hx => ?_
    · unfold labB
      have := nth_lab h1 v
      have := nth_lab h2 v
      split
      · omega
      · split <;> omega
    · obtain ⟨y, _, rfl⟩ := List.mem_map.1 hx
      exact labN_le h1 h2 d y
theorem lab_succ (f : Ex → Nat) (a : Nat) (ks : List Ex) (i : Nat) (x : Ex) (h : ks[i]? = some x) : ((ks.take (i + 1)).map f).foldl (fun a b => a ||| b) a = ((ks.take i).map f).foldl (fun a b => a ||| b) a ||| f x := by
  rw [List.take_add_one, h]
  simp
theorem labs_of {p : Pg} (h : progOK p = true) : lab3 p.vars ∧ lab3 p.arrays := by
  simp only [progOK, headsOK, labs, Bool.and_eq_true, decide_eq_true_eq, List.all_eq_true] at h
  exact ⟨fun x hx => h.1.1.1.2 x hx, fun x hx => h.1.1.2 x hx⟩

theorem labelI (p : Pg) (hl : p.vars.length ≤ mx) (hl2 : p.arrays.length ≤ mx) (h1 : lab3 p.vars) (h2 : lab3 p.arrays) : ∀ (d : Nat) (e : Ex), shape p d e = true → DC Try.prog 99 [.agg p.cells, .agg e.cells] [] (fun r h => r = DI .i64 (labN p.vars p.arrays d e) ∧ h = []) := by
  have hmx := mx_eq
  intro d
  induction d with
  | zero => intro e h; simp [shape] at h
  | succ d ih =>
    intro e hsh
    obtain ⟨k, v, ks⟩ := e
    obtain ⟨g1, g2, g3⟩ := shape_succ hsh
    obtain ⟨hl3, hla, hv0, hv1⟩ := fits_len g1
    obtain ⟨vs, ar, bd⟩ := p
    have h1 : lab3 vs := h1
    have h2 : lab3 ar := h2
    generalize hR : (fun (r : D) (h : List (Option (List C))) => r = DI .i64 (labN vs ar (d + 1) (.mk k v ks)) ∧ h = []) = R
    have hle := fun e => labN_le h1 h2 d e
    have hacc : ∀ i, ((ks.take i).map (labN vs ar d)).foldl (fun a b => a ||| b) (labB vs ar k v) ≤ 3 := fun i => by
      have := labN_le h1 h2 (d + 1) (.mk k v (ks.take i))
      exact this
    have hlb : labB vs ar k v ≤ 3 := hacc 0
    have key : k = 2 ∨ k = 3 ∨ (k ≠ 2 ∧ k ≠ 3) := by omega
    rcases key with hk | hk | ⟨hk2, hk3⟩
    · have hv1' : v < vs.length := by subst hk; simpa [limit] using hv1
      have hx := (nth_mem (l := vs) hv0 hv1').1
      have hB : ((labB vs ar k v : Nat) : Int) = nth vs v := by have := nth_lab h1 v; simp [labB, hk]; omega
      have e2 : (k == 2) = true := by simp [hk]
      have e3 : (k == 3) = false := by simp [hk]
      have f2 : (k = 2) = True := by simp [hk]
      have f3 : (k = 3) = False := by simp [hk]
      refine dcZ Try.func99 ?_
      simp (maxSteps := 9999999) only [go_sem]
      iterate 4 ((try (refine drvZ Try.func99 ?_; simp (maxSteps := 9999999) only [go_sem, e2, e3, f2, f3, hx])); (try ((with_reducible refine And.intro ?_ ?_) <;> (repeat' with_reducible apply And.intro) <;> try exact sd)))
      refine Go.loopQ (fun i : Nat => [(2, .c (.ptr 0 0)), (5, DI .i64 (((ks.take i).map (labN vs ar d)).foldl (fun a b => a ||| b) (labB vs ar k v) : Nat)), (27, .c (.isl 3 (Ex.cellsL ks))), (28, DI .i64 ks.length), (29, DI .i64 i)]) (fun i => [(0, some (Pg.cells ⟨vs, ar, bd⟩))])
        4096 (fun i => i ≤ ks.length) (fun i => ks.length - i) ?_ 0 some [] _ (Nat.zero_le _) ?_
      · intro i hi again
        rcases Nat.lt_or_ge i ks.length with hlt | hge
        · obtain ⟨⟨k', v', ks'⟩, hx⟩ : ∃ x, ks[i]? = some x := ⟨ks[i], by simp [hlt]⟩
          have hsc := lab_succ (labN vs ar d) (labB vs ar k v) ks i _ hx
          have ha := hacc i
          have hb := hle (.mk k' v' ks')
          have hc := hacc (i + 1)
          rw [hsc] at hc
          generalize ((ks.take i).map (labN vs ar d)).foldl (fun a b => a ||| b) (labB vs ar k v) = acc at *
          refine drvL Try.func99 ?_
          simp (maxSteps := 9999999) only [go_sem, hx, hlt]
          iterate 2 ((try (refine drvZ Try.func99 ?_; simp (maxSteps := 9999999) only [go_sem, hx, hlt])); (try ((with_reducible refine And.intro ?_ ?_) <;> (repeat' with_reducible apply And.intro) <;> try exact sd)))
          refine XK.plain (ih (.mk k' v' ks') (g2 _ (List.mem_of_getElem? hx))) ok99 ?_ (hbT ())
          iterate 3 ((try (refine drvZ Try.func99 ?_; simp (maxSteps := 9999999) only [go_sem, hx, hlt])); (try ((with_reducible refine And.intro ?_ ?_) <;> (repeat' with_reducible apply And.intro) <;> try exact sd)))
          refine again (i + 1) some [] _ hlt (by omega) ?_
          simp (maxSteps := 9999999) only [go_sem, TmOK, DM, DMs, CM, CMs, forall_eq, exists_eq_left, Mq, HpOK, LowOK, hsc]
          simp
          rw [← List.map_take, hsc]
        · have hn : ¬ i < ks.length := by omega
          obtain rfl : i = ks.length := by omega
          refine drvL Try.func99 ?_
          simp (maxSteps := 9999999) only [go_sem, hn, List.take_length]
          iterate 2 ((try (refine drvZ Try.func99 ?_; simp (maxSteps := 9999999) only [go_sem, hn, List.take_length])); (try ((with_reducible refine And.intro ?_ ?_) <;> (repeat' with_reducible apply And.intro) <;> try exact sd)))
          exact RetOb.plain (d := DI .i64 _) (by rw [← hR]; exact ⟨rfl, rfl⟩) rfl
      · simp (maxSteps := 9999999) only [go_sem, TmOK, DM, DMs, CM, CMs, forall_eq, exists_eq_left, Mq, HpOK, LowOK, List.take_zero, List.map_nil, List.foldl_nil]
        simp [hB]
    · have hv1' : v < ar.length := by subst hk; simpa [limit] using hv1
      have hx := (nth_mem (l := ar) hv0 hv1').1
      have hB : ((labB vs ar k v : Nat) : Int) = nth ar v := by have := nth_lab h2 v; simp [labB, hk]; omega
      have e2 : (k == 2) = false := by simp [hk]
      have e3 : (k == 3) = true := by simp [hk]
      have f2 : (k = 2) = False := by simp [hk]
      have f3 : (k = 3) = True := by simp [hk]
      refine dcZ Try.func99 ?_
      simp (maxSteps := 9999999) only [go_sem]
      iterate 4 ((try (refine drvZ Try.func99 ?_; simp (maxSteps := 9999999) only [go_sem, e2, e3, f2, f3, hx])); (try ((with_reducible refine And.intro ?_ ?_) <;> (repeat' with_reducible apply And.intro) <;> try exact sd)))
      refine Go.loopQ (fun i : Nat => [(2, .c (.ptr 0 0)), (5, DI .i64 (((ks.take i).map (labN vs ar d)).foldl (fun a b => a ||| b) (labB vs ar k v) : Nat)), (27, .c (.isl 3 (Ex.cellsL ks))), (28, DI .i64 ks.length), (29, DI .i64 i)]) (fun i => [(0, some (Pg.cells ⟨vs, ar, bd⟩))])
        4096 (fun i => i ≤ ks.length) (fun i => ks.length - i) ?_ 0 some [] _ (Nat.zero_le _) ?_
      · intro i hi again
        rcases Nat.lt_or_ge i ks.length with hlt | hge
        · obtain ⟨⟨k', v', ks'⟩, hx⟩ : ∃ x, ks[i]? = some x := ⟨ks[i], by simp [hlt]⟩
          have hsc := lab_succ (labN vs ar d) (labB vs ar k v) ks i _ hx
          have ha := hacc i
          have hb := hle (.mk k' v' ks')
          have hc := hacc (i + 1)
          rw [hsc] at hc
          generalize ((ks.take i).map (labN vs ar d)).foldl (fun a b => a ||| b) (labB vs ar k v) = acc at *
          refine drvL Try.func99 ?_
          simp (maxSteps := 9999999) only [go_sem, hx, hlt]
          iterate 2 ((try (refine drvZ Try.func99 ?_; simp (maxSteps := 9999999) only [go_sem, hx, hlt])); (try ((with_reducible refine And.intro ?_ ?_) <;> (repeat' with_reducible apply And.intro) <;> try exact sd)))
          refine XK.plain (ih (.mk k' v' ks') (g2 _ (List.mem_of_getElem? hx))) ok99 ?_ (hbT ())
          iterate 3 ((try (refine drvZ Try.func99 ?_; simp (maxSteps := 9999999) only [go_sem, hx, hlt])); (try ((with_reducible refine And.intro ?_ ?_) <;> (repeat' with_reducible apply And.intro) <;> try exact sd)))
          refine again (i + 1) some [] _ hlt (by omega) ?_
          simp (maxSteps := 9999999) only [go_sem, TmOK, DM, DMs, CM, CMs, forall_eq, exists_eq_left, Mq, HpOK, LowOK, hsc]
          simp
          rw [← List.map_take, hsc]
        · have hn : ¬ i < ks.length := by omega
          obtain rfl : i = ks.length := by omega
          refine drvL Try.func99 ?_
          simp (maxSteps := 9999999) only [go_sem, hn, List.take_length]
          iterate 2 ((try (refine drvZ Try.func99 ?_; simp (maxSteps := 9999999) only [go_sem, hn, List.take_length])); (try ((with_reducible refine And.intro ?_ ?_) <;> (repeat' with_reducible apply And.intro) <;> try exact sd)))
          exact RetOb.plain (d := DI .i64 _) (by rw [← hR]; exact ⟨rfl, rfl⟩) rfl
      · simp (maxSteps := 9999999) only [go_sem, TmOK, DM, DMs, CM, CMs, forall_eq, exists_eq_left, Mq, HpOK, LowOK, List.take_zero, List.map_nil, List.foldl_nil]
        simp [hB]
    · have hB : labB vs ar k v = 0 := by simp [labB, hk2, hk3]
      have e2 : (k == 2) = false := by simp [hk2]
      have e3 : (k == 3) = false := by simp [hk3]
      refine dcZ Try.func99 ?_
      simp (maxSteps := 9999999) only [go_sem]
      iterate 4 ((try (refine drvZ Try.func99 ?_; simp (maxSteps := 9999999) only [go_sem, e2, e3, hk2, hk3])); (try ((with_reducible refine And.intro ?_ ?_) <;> (repeat' with_reducible apply And.intro) <;> try exact sd)))
      refine Go.loopQ (fun i : Nat => [(2, .c (.ptr 0 0)), (5, DI .i64 (((ks.take i).map (labN vs ar d)).foldl (fun a b => a ||| b) (labB vs ar k v) : Nat)), (27, .c (.isl 3 (Ex.cellsL ks))), (28, DI .i64 ks.length), (29, DI .i64 i)]) (fun i => [(0, some (Pg.cells ⟨vs, ar, bd⟩))])
        4096 (fun i => i ≤ ks.length) (fun i => ks.length - i) ?_ 0 some [] _ (Nat.zero_le _) ?_
      · intro i hi again
        rcases Nat.lt_or_ge i ks.length with hlt | hge
        · obtain ⟨⟨k', v', ks'⟩, hx⟩ : ∃ x, ks[i]? = some x := ⟨ks[i], by simp [hlt]⟩
          have hsc := lab_succ (labN vs ar d) (labB vs ar k v) ks i _ hx
          have ha := hacc i
          have hb := hle (.mk k' v' ks')
          have hc := hacc (i + 1)
          rw [hsc] at hc
          generalize ((ks.take i).map (labN vs ar d)).foldl (fun a b => a ||| b) (labB vs ar k v) = acc at *
          refine drvL Try.func99 ?_
          simp (maxSteps := 9999999) only [go_sem, hx, hlt]
          iterate 2 ((try (refine drvZ Try.func99 ?_; simp (maxSteps := 9999999) only [go_sem, hx, hlt])); (try ((with_reducible refine And.intro ?_ ?_) <;> (repeat' with_reducible apply And.intro) <;> try exact sd)))
          refine XK.plain (ih (.mk k' v' ks') (g2 _ (List.mem_of_getElem? hx))) ok99 ?_ (hbT ())
          iterate 3 ((try (refine drvZ Try.func99 ?_; simp (maxSteps := 9999999) only [go_sem, hx, hlt])); (try ((with_reducible refine And.intro ?_ ?_) <;> (repeat' with_reducible apply And.intro) <;> try exact sd)))
          refine again (i + 1) some [] _ hlt (by omega) ?_
          simp (maxSteps := 9999999) only [go_sem, TmOK, DM, DMs, CM, CMs, forall_eq, exists_eq_left, Mq, HpOK, LowOK, hsc]
          simp
          rw [← List.map_take, hsc]
        · have hn : ¬ i < ks.length := by omega
          obtain rfl : i = ks.length := by omega
          refine drvL Try.func99 ?_
          simp (maxSteps := 9999999) only [go_sem, hn, List.take_length]
          iterate 2 ((try (refine drvZ Try.func99 ?_; simp (maxSteps := 9999999) only [go_sem, hn, List.take_length])); (try ((with_reducible refine And.intro ?_ ?_) <;> (repeat' with_reducible apply And.intro) <;> try exact sd)))
          exact RetOb.plain (d := DI .i64 _) (by rw [← hR]; exact ⟨rfl, rfl⟩) rfl
      · simp (maxSteps := 9999999) only [go_sem, TmOK, DM, DMs, CM, CMs, forall_eq, exists_eq_left, Mq, HpOK, LowOK, List.take_zero, List.map_nil, List.foldl_nil]
        simp [hB]
end Go.Proofs.Ytclgjiffpijgmaa.CtR

namespace Go.Proofs.Ytclgjiffpijgmaa.CtR
open Go Go.CT CtF

def ctxI (vs ar : List Int) (s : St1) (c : Nat) : Nat := if s.kind = 3 then c ||| labN vs ar 5 s.value else c
/-- What telling of each statement makes of a state. -/
def eachF {X : Type} (vs ar : List Int) (step : X → St1 → Nat → X) : Nat → Nat → X → List St1 → X
  | 0, _, x, _ => x
  | d + 1, c, x, l => l.foldl (fun x s => eachF vs ar step d (ctxI vs ar s c) (eachF vs ar step d (ctxI vs ar s c) (step x s c) s.body) s.els) x
theorem RetOb.two {R : D → List (Option (List C)) → Prop} {a b : Int} {hp : Hp} (h : R (.tup [DI .i64 a, DI .i64 b]) []) : RetOb 0 R (.tup [DI .i64 a, DI .i64 b]) hp :=
  RetOb.ofQ (fun _ => none) [] (.tup [DI .i64 a, DI .i64 b]) [] (by simp [enumL, DM, DMs, CM, HpOK, LowOK]) h (by simp)
theorem prog_len2 {p : Pg} (h : progOK p = true) : 1 ≤ p.vars.length ∧ p.vars.length ≤ 12 ∧ p.arrays.length ≤ 2 := by
  simp only [progOK, headsOK, Bool.and_eq_true, decide_eq_true_eq] at h
  obtain ⟨⟨⟨⟨⟨_, h1⟩, h2⟩, h3⟩, _⟩, _⟩ := h
  omega

end Go.Proofs.Ytclgjiffpijgmaa.CtR

namespace Go.Proofs.Ytclgjiffpijgmaa.CtR
open Go Go.CT CtF

theorem hhp_each1 {hp : Hp} {r : Nat → Nat} {h0 : Option (List C)} (e0 : hp 0 = some (h0.map (renCs r))) :
    ∀ i' x, [h0][i']? = some x → hp ([0].getD i' 0) = some (x.map (renCs r)) := by
  intro i' x hx
  match i', hx with
  | 0, hx => simp only [List.getElem?_cons_zero, List.getElem?_cons_succ, Option.some.injEq] at hx; subst hx; exact e0
  | i' + 1, hx => simp at hx
theorem rkid_each1 (b : Nat) : ∀ k, k < 1 → rk0 [0] b k = k := fun k hk => by
  match k, hk with
  | 0, _ => rfl
theorem rkey_each1 (b : Nat) : ∀ k, k < 1 → rkey [0] b k = k := fun k hk => by
  match k, hk with
  | 0, _ => rfl

theorem each1 {X : Type} (p : Pg) (hl : p.vars.length ≤ mx) (hl2 : p.arrays.length ≤ mx) (h1 : lab3 p.vars) (h2 : lab3 p.arrays) (F : FuncId) (hF : fnOK Try.prog F = true)
    (b0 : X → List C) (hr0 : ∀ x r, (∀ k, k < 1 → r k = k) → renCs r (b0 x) = b0 x) (hc0 : ∀ x hT hS fz, (∀ k, k < 1 → hT k ≠ none) → CMs hT some hS fz (b0 x) (b0 x)) (step : X → St1 → Nat → X) (Inv : Nat → X → Prop)
    (hcl : ∀ d x s (c q : Nat), q < 1000 → Inv q x → c ≤ 3 → stmtOK p d s = true → Inv (q + 1) (step x s c) ∧ DC Try.prog F [.agg s.cells, DI .i64 c, .c (.ptr 0 0)] [some (b0 x)] (fun r h => r = .tup [] ∧ h = [some (b0 (step x s c))])) :
    ∀ (d : Nat) (l : List St1) (x : X) (c q : Nat), Inv q x → c ≤ 3 → (∀ s ∈ l, stmtOK p d s = true) → q + lsize d l ≤ 1000 →
      Inv (q + lsize d l) (eachF p.vars p.arrays step d c x l) ∧ DC Try.prog 52 [.agg p.cells, .c (.isl 11 (St1.cellsL l)), DI .i64 c, .c (.clo F [.ptr 0 0])] [some (b0 x)] (fun r h => r = .tup [] ∧ h = [some (b0 (eachF p.vars p.arrays step d c x l))]) := by
  have hmx := mx_eq
  intro d
  induction d with
  | zero =>
    intro l x c q hx hc hok hsz
    have hnil : l = [] := by
      cases l with
      | nil => rfl
      | cons a r => have := hok a (by simp); simp [stmtOK] at this
    subst hnil
    refine ⟨by rw [lsize_zero]; exact hx, ?_⟩
    obtain ⟨vs, ar, bd⟩ := p
    simp only [eachF]
    generalize hR : (fun (r : D) (h : List (Option (List C))) => r = .tup [] ∧ h = [some (b0 x)]) = R
    refine dcZ Try.func52 ?_
    simp (maxSteps := 9999999) only [go_sem, St1.cellsL, Int.natCast_zero]
    refine Go.loop ?_
    have hz : ((0 : Int) < 0) = False := eq_false (by omega)
    refine drvL Try.func52 ?_
    simp (maxSteps := 9999999) only [go_sem, St1.cellsL, Int.natCast_zero, hz]
    refine RetOb.ofQ some [] (.tup []) [some (b0 x)] ?_ (by rw [← hR]; exact ⟨rfl, rfl⟩) (by simp)
    simp [enumL, DMs, DM, HpOK, LowOK, hOf, upd, hpL]
    refine hc0 _ _ _ _ ?_
    all_goals (intro k hk; rcases (show k = 0 by omega) with rfl <;> simp [upd])
  | succ d ih =>
    intro l x c q hx hc hok hsz
    have hsub := lsize_subs d l
    have hll : l.length ≤ 1000 := by omega
    let f : X → St1 → X := fun x s => eachF p.vars p.arrays step d (ctxI p.vars p.arrays s c) (eachF p.vars p.arrays step d (ctxI p.vars p.arrays s c) (step x s c) s.body) s.els
    have hfold : ∀ i s, l[i]? = some s → (l.take (i + 1)).foldl f x = f ((l.take i).foldl f x) s := fun i s h => by
      rw [List.take_add_one, h]; simp
    have hres : eachF p.vars p.arrays step (d + 1) c x l = l.foldl f x := rfl
    have hf : ∀ (x : X) (s : St1), f x s = eachF p.vars p.arrays step d (ctxI p.vars p.arrays s c) (eachF p.vars p.arrays step d (ctxI p.vars p.arrays s c) (step x s c) s.body) s.els := fun _ _ => rfl
    clear_value f
    have hlabI := fun e => labelI p hl hl2 h1 h2 5 e
    have hlabL := fun e => labN_le h1 h2 5 e
    have e0 : ∀ y b, renCs (rkey [0] b) (b0 y) = b0 y := fun y b => hr0 y _ (rkey_each1 b)
    generalize hR : (fun (r : D) (h : List (Option (List C))) => r = .tup [] ∧ h = [some (b0 (eachF p.vars p.arrays step (d + 1) c x l))]) = R
    rw [hres] at hR
    rw [hres]
    have hK : ∀ (i : Nat) (s : St1), l[i]? = some s → q + tsum (tsize (d + 1)) l i + 1 + lsize d s.body + lsize d s.els ≤ 1000 ∧ tsum (tsize (d + 1)) l (i + 1) = tsum (tsize (d + 1)) l i + 1 + lsize d s.body + lsize d s.els := fun i s hi => by
      have a1 := tsum_succ (tsize (d + 1)) l i s hi
      have a2 := tsum_le (tsize (d + 1)) l (i + 1)
      have a3 := tsize_subs d s
      have a4 : lsize (d + 1) l = (l.map (tsize (d + 1))).sum := rfl
      simp only [subs] at a3
      omega
    have hround : ∀ (i : Nat) (s : St1), l[i]? = some s → ∀ y, Inv (q + tsum (tsize (d + 1)) l i) y → ctxI p.vars p.arrays s c ≤ 3 ∧
        (Inv (q + tsum (tsize (d + 1)) l i + 1) (step y s c) ∧ DC Try.prog F [.agg s.cells, DI .i64 c, .c (.ptr 0 0)] [some (b0 y)] (fun r h => r = .tup [] ∧ h = [some (b0 (step y s c))])) := fun i s hi y hy => by
      have hmem := List.mem_of_getElem? hi
      have := (hK i s hi).1
      refine ⟨?_, hcl (d + 1) y s c _ (by omega) hy hc (hok s hmem)⟩
      unfold ctxI
      split
      · exact or3 hc (hlabL _)
      · exact hc
    have hsok : ∀ (i : Nat) (s : St1), l[i]? = some s → (∀ t ∈ s.body, stmtOK p d t = true) ∧ (∀ t ∈ s.els, stmtOK p d t = true) ∧ (s.kind = 3 → shape p 5 s.value = true) := fun i s hi => by
      have hs := hok s (List.mem_of_getElem? hi)
      obtain ⟨k, t, ix, v, cc, b, e⟩ := s
      obtain ⟨g1, g2, g3⟩ := stmtOK_succ hs
      refine ⟨g2, g3, fun hk => ?_⟩
      have hk : k = 3 := hk
      subst hk
      rcases head_kind g1 with h | h | h | h
      · omega
      · omega
      · exact (right_shape h.2).1
      · omega
    have hinv : ∀ i, i ≤ l.length → Inv (q + tsum (tsize (d + 1)) l i) ((l.take i).foldl f x) := fun i => by
      induction i with
      | zero => intro _; simpa [tsum] using hx
      | succ i ihi =>
        intro hi
        have hs : l[i]? = some l[i] := by simp [show i < l.length from hi]
        rw [hfold i _ hs, hf, (hK i _ hs).2]
        have hk := (hK i _ hs).1
        have g := hround i _ hs _ (ihi (by omega))
        have g2 := hsok i _ hs
        have b1 := (ih _ _ _ _ g.2.1 g.1 g2.1 (by omega)).1
        have b2 := (ih _ _ _ _ b1 g.1 g2.2.1 (by omega)).1
        have e : q + (tsum (tsize (d + 1)) l i + 1 + lsize d l[i].body + lsize d l[i].els) = q + tsum (tsize (d + 1)) l i + 1 + lsize d l[i].body + lsize d l[i].els := by omega
        rw [e]
        exact b2
    refine ⟨by have := hinv l.length (Nat.le_refl _); rw [List.take_length] at this; rw [tsum_all _ _ (Nat.le_refl _)] at this; exact this, ?_⟩
    obtain ⟨vs, ar, bd⟩ := p
    have h1 : lab3 vs := h1
    have h2 : lab3 ar := h2
    refine dcZ Try.func52 ?_
    simp (maxSteps := 9999999) only [go_sem]
    refine Go.loopQ (fun i : Nat => [(2, DI .i64 c), (3, .c (.clo F [.ptr 0 0])), (4, .c (.ptr 1 0)), (11, .c (.isl 11 (St1.cellsL l))), (12, DI .i64 l.length), (13, DI .i64 i)])
      (fun i => [(0, some (b0 ((l.take i).foldl f x))), (1, some (Pg.cells ⟨vs, ar, bd⟩))]) 4096 (fun i => i ≤ l.length) (fun i => l.length - i) ?_ 0 some [] _ (Nat.zero_le _) ?_
    · intro i hi again
      have hIi := hinv i hi
      rcases Nat.lt_or_ge i l.length with hlt | hge
      · obtain ⟨⟨k, t, ⟨ik, iv, iks⟩, ⟨vk, vv, vks⟩, cc, b, e⟩, hs⟩ : ∃ s, l[i]? = some s := ⟨l[i], by simp [hlt]⟩
        have hfi := hfold i _ hs
        obtain ⟨q1, q4, q5⟩ := hround i _ hs _ hIi
        obtain ⟨q6, q7, q8⟩ := hsok i _ hs
        have hk := (hK i _ hs).1
        simp only [St1.body, St1.els] at hk
        have ihb := ih b _ _ _ q4 q1 q6 (by omega)
        have ihe := ih e _ _ _ ihb.1 q1 q7 (by omega)
        have ihb2 := ihb.2
        have ihe2 := ihe.2
        have hll2 := hlabL (.mk vk vv vks)
        rw [hf] at hfi
        generalize (l.take i).foldl f x = y at *
        refine drvL Try.func52 ?_
        simp (maxSteps := 9999999) only [go_sem, hs, hlt]
        iterate 2 ((try (refine drvZ Try.func52 ?_; simp (maxSteps := 9999999) only [go_sem, hs, hlt])); (try ((with_reducible refine And.intro ?_ ?_) <;> (repeat' with_reducible apply And.intro) <;> try exact sd)))
        refine XK.callG [0] q5 hF (hhp_each1 (by rw [Option.map_some, hr0 _ _ (rkid_each1 _)]; rfl)) (hbT ()) (fun d h' ⟨_, e⟩ => by subst e; simp) ?_
        rintro _ _ ⟨rfl, rfl⟩ _
        by_cases hk : k = 3
        · subst hk
          have hlb := hlabI (.mk vk vv vks) (q8 rfl)
          have hcx : ctxI vs ar (.mk 3 t (.mk ik iv iks) (.mk vk vv vks) cc b e) c = c ||| labN vs ar 5 (.mk vk vv vks) := by simp [ctxI, St1.kind, St1.value]
          iterate 4 ((try (refine drvZ Try.func52 ?_; simp (maxSteps := 9999999) only [go_sem, hs, hlt, e0])); (try ((with_reducible refine And.intro ?_ ?_) <;> (repeat' with_reducible apply And.intro) <;> try exact sd)))
          refine XK.plain hlb ok99 ?_ (hbT ())
          rw [hcx] at ihb2 ihe2 hfi q1
          generalize labN vs ar 5 (.mk vk vv vks) = lb at *
          iterate 4 ((try (refine drvZ Try.func52 ?_; simp (maxSteps := 9999999) only [go_sem, hs, hlt, e0])); (try ((with_reducible refine And.intro ?_ ?_) <;> (repeat' with_reducible apply And.intro) <;> try exact sd)))
          refine XK.callG [0] ihb2 ok52 (hhp_each1 (by rw [Option.map_some, hr0 _ _ (rkid_each1 _)]; rfl)) (hbT ()) (fun d h' ⟨_, e⟩ => by subst e; simp) ?_
          rintro _ _ ⟨rfl, rfl⟩ _
          iterate 4 ((try (refine drvZ Try.func52 ?_; simp (maxSteps := 9999999) only [go_sem, hs, hlt, e0])); (try ((with_reducible refine And.intro ?_ ?_) <;> (repeat' with_reducible apply And.intro) <;> try exact sd)))
          refine XK.callG [0] ihe2 ok52 (hhp_each1 (by rw [Option.map_some, hr0 _ _ (rkid_each1 _)]; rfl)) (hbT ()) (fun d h' ⟨_, e⟩ => by subst e; simp) ?_
          rintro _ _ ⟨rfl, rfl⟩ _
          iterate 4 ((try (refine drvZ Try.func52 ?_; simp (maxSteps := 9999999) only [go_sem, hs, hlt, e0])); (try ((with_reducible refine And.intro ?_ ?_) <;> (repeat' with_reducible apply And.intro) <;> try exact sd)))
          refine again (i + 1) some [] _ hlt (by omega) ?_
          simp (maxSteps := 9999999) only [go_sem, TmOK, DM, DMs, CM, CMs, forall_eq, exists_eq_left, Mq, HpOK, LowOK, hfi]
          simp
          refine hc0 _ _ _ _ ?_
          all_goals (intro k hk; rcases (show k = 0 by omega) with rfl <;> simp [upd])
        · have hkb : (k == 3) = false := by simp [hk]
          have hcx : ctxI vs ar (.mk k t (.mk ik iv iks) (.mk vk vv vks) cc b e) c = c := by simp [ctxI, St1.kind, hk]
          rw [hcx] at ihb2 ihe2 hfi
          iterate 4 ((try (refine drvZ Try.func52 ?_; simp (maxSteps := 9999999) only [go_sem, hs, hlt, e0, hk, hkb])); (try ((with_reducible refine And.intro ?_ ?_) <;> (repeat' with_reducible apply And.intro) <;> try exact sd)))
          refine XK.callG [0] ihb2 ok52 (hhp_each1 (by rw [Option.map_some, hr0 _ _ (rkid_each1 _)]; rfl)) (hbT ()) (fun d h' ⟨_, e⟩ => by subst e; simp) ?_
          rintro _ _ ⟨rfl, rfl⟩ _
          iterate 4 ((try (refine drvZ Try.func52 ?_; simp (maxSteps := 9999999) only [go_sem, hs, hlt, e0])); (try ((with_reducible refine And.intro ?_ ?_) <;> (repeat' with_reducible apply And.intro) <;> try exact sd)))
          refine XK.callG [0] ihe2 ok52 (hhp_each1 (by rw [Option.map_some, hr0 _ _ (rkid_each1 _)]; rfl)) (hbT ()) (fun d h' ⟨_, e⟩ => by subst e; simp) ?_
          rintro _ _ ⟨rfl, rfl⟩ _
          iterate 4 ((try (refine drvZ Try.func52 ?_; simp (maxSteps := 9999999) only [go_sem, hs, hlt, e0])); (try ((with_reducible refine And.intro ?_ ?_) <;> (repeat' with_reducible apply And.intro) <;> try exact sd)))
          refine again (i + 1) some [] _ hlt (by omega) ?_
          simp (maxSteps := 9999999) only [go_sem, TmOK, DM, DMs, CM, CMs, forall_eq, exists_eq_left, Mq, HpOK, LowOK, hfi]
          simp
          refine hc0 _ _ _ _ ?_
          all_goals (intro k hk; rcases (show k = 0 by omega) with rfl <;> simp [upd])
      · have hn : ¬ i < l.length := by omega
        obtain rfl : i = l.length := by omega
        refine drvL Try.func52 ?_
        simp (maxSteps := 9999999) only [go_sem, hn, List.take_length]
        iterate 2 ((try (refine drvZ Try.func52 ?_; simp (maxSteps := 9999999) only [go_sem, hn, List.take_length])); (try ((with_reducible refine And.intro ?_ ?_) <;> (repeat' with_reducible apply And.intro) <;> try exact sd)))
        refine RetOb.ofQ some [] (.tup []) [some (b0 (l.foldl f x))] ?_ (by rw [← hR]; exact ⟨rfl, rfl⟩) (by simp)
        simp [enumL, DMs, DM, HpOK, LowOK, hOf, upd, hpL]
        refine hc0 _ _ _ _ ?_
        all_goals (intro k hk; rcases (show k = 0 by omega) with rfl <;> simp [upd])
    · simp (maxSteps := 9999999) only [go_sem, TmOK, DM, DMs, CM, CMs, forall_eq, exists_eq_left, Mq, HpOK, LowOK, List.take_zero, List.foldl_nil]
      simp
      refine hc0 _ _ _ _ ?_
      all_goals (intro k hk; rcases (show k = 0 by omega) with rfl <;> simp [upd])
end Go.Proofs.Ytclgjiffpijgmaa.CtR

namespace Go.Proofs.Ytclgjiffpijgmaa.CtR
open Go Go.CT CtF

abbrev BC (b : Bool) : C := .v (.bool b)
def boolsC (bs : List Bool) : List C := bs.map BC
def boolsD (bs : List Bool) : C := .isl 1 (bs.map fun b => [BC b])
theorem boolsC_kf (bs : List Bool) : ∀ c ∈ boolsC bs, kf c = true := by
  intro c hc; obtain ⟨x, _, rfl⟩ := List.mem_map.1 hc; rfl
theorem boolsC_set (bs : List Bool) (i : Nat) (b : Bool) : (boolsC bs).set i (.v (.bool b)) = boolsC (bs.set i b) := by
  unfold boolsC; rw [List.map_set]
theorem boolsC_len (bs : List Bool) : (boolsC bs).length = bs.length := by simp [boolsC]
theorem boolsC_ren (r : Nat → Nat) (bs : List Bool) : renCs r (boolsC bs) = boolsC bs := by
  induction bs with
  | nil => rfl
  | cons a r' ih => simp only [boolsC, List.map_cons, renCs, renC] at ih ⊢; rw [ih]
theorem boolsC_flat (bs : List Bool) : (bs.map fun b => [BC b]).flatten = boolsC bs := flat1 _ _

end Go.Proofs.Ytclgjiffpijgmaa.CtR

namespace Go.Proofs.Ytclgjiffpijgmaa.CtD
open Go Go.CT CtF CtR

theorem runP_sm (p : Pg) (m : Mm) : (runP p m).1.vals.length ≤ 12 ∧ (runP p m).1.arrays.length ≤ 2 ∧ (∀ a ∈ (runP p m).1.arrays, a.length ≤ 4) ∧ (runP p m).2.1.length ≤ 1000000 := by
  cases hq : (progOK p && memOK p.vars p.arrays m) with
  | false => rw [runP_false hq]; simp
  | true =>
    rw [runP_true hq]
    have hm := memFits_of hq
    simp only [Bool.and_eq_true] at hq
    have hb := body_of hq.1
    have h := runL_ok hm hb.1
    have h2 := h.2
    rw [wt5] at h2
    refine ⟨by rw [h.1.nv]; exact hm.nv12.2, by rw [h.1.na]; exact hm.na2, fun a ha => by have := (h.1.arr a ha).1; omega, ?_⟩
    have := hb.2
    simp only
    omega

end Go.Proofs.Ytclgjiffpijgmaa.CtD

namespace Go.Proofs.Ytclgjiffpijgmaa.CtD
open Go Go.CT CtF CtR

theorem ctInts (xs ys : List Int) (hl : xs.length ≤ mx) : DC Try.prog 27 [ints xs, ints ys] [] (fun r h => r = DB (decide (xs = ys)) ∧ h = []) := by
  have hmx := mx_eq
  have ret : ∀ (b : Bool) (hp : Hp), b = decide (xs = ys) → RetOb 0 (fun r h => r = DB (decide (xs = ys)) ∧ h = []) (DB b) hp := fun b hp h => RetOb.plain (d := DB _) ⟨by rw [h], rfl⟩ rfl
  by_cases hlen : xs.length = ys.length
  · have hb : ((xs.length : Int) != ys.length) = false := by simp [hlen]
    have he : ((xs.length : Int) = ys.length) = True := eq_true (by omega)
    refine dc_of_go Try.func27 rfl (by simp) ?_
    refine drv_sound (n := 100) (rs := _) Try.func27 mo rfl none _ _ ?_
    simp (maxSteps := 9999999) only [go_sem, ints, hb, he]
    refine Go.loopL (fun i : Nat => [(0, ints xs), (1, ints ys), (5, DI .i64 i)]) (fun _ => []) 1024 (fun i => i ≤ xs.length ∧ decide (xs = ys) = decide (xs.drop i = ys.drop i)) (fun i => xs.length - i) ?_ 0 some [] _ ⟨Nat.zero_le _, rfl⟩ ?_
    · intro i hi again
      refine drv_sound (n := 100) (rs := _) Try.func27 mo rfl none _ _ ?_
      rcases Nat.lt_or_ge i xs.length with hlt | hge
      · obtain ⟨x, hx⟩ : ∃ x, xs[i]? = some x := ⟨xs[i], by simp [hlt]⟩
        obtain ⟨y, hy⟩ : ∃ y, ys[i]? = some y := ⟨ys[i]'(by omega), by simp⟩
        have hI := hi.2
        obtain ⟨_, ex⟩ := List.getElem?_eq_some_iff.1 hx
        obtain ⟨hyl, ey⟩ := List.getElem?_eq_some_iff.1 hy
        rw [List.drop_eq_getElem_cons hlt, List.drop_eq_getElem_cons hyl, ex, ey] at hI
        simp (maxSteps := 9999999) only [go_sem, ints, hx, hy, hlt]
        (repeat' with_reducible apply And.intro) <;> (try first | omega | (simp only [InK]; omega) | (intro k e; cases e; rfl) | (intro hguard; exact ⟨hguard, by simp only [InK]; omega⟩) | kernel_rfl)
        · intro hne; exact ret _ _ (by rw [hI]; simp [hne])
        · intro heq; exact ⟨by simp only [InK]; omega, again (i + 1) some [] _ ⟨by omega, by rw [hI]; simp [heq]⟩ (by omega) (Mt.slots (by
            simp (maxSteps := 9999999) only [go_sem, TmOK, DM, DMs, CM, CMs, forall_eq, exists_eq_left, ints]))⟩
      · have hn : ¬ i < xs.length := by omega
        simp (maxSteps := 9999999) only [go_sem, ints, hn]
        refine ret _ _ ?_
        rw [hi.2, List.drop_of_length_le hge, List.drop_of_length_le (by omega)]; rfl
    · refine Mt.slots ?_
      simp (maxSteps := 9999999) only [go_sem, TmOK, DM, DMs, CM, CMs, forall_eq, exists_eq_left, ints]
  · have hb : ((xs.length : Int) != ys.length) = true := by simp; omega
    have he : ((xs.length : Int) = ys.length) = False := eq_false (by omega)
    refine dc_of_go Try.func27 rfl (by simp) ?_
    refine drv_sound (n := 100) (rs := _) Try.func27 mo rfl none _ _ ?_
    simp (maxSteps := 9999999) only [go_sem, ints, hb, he]
    refine ret _ _ ?_
    symm; rw [decide_eq_false_iff_not]; intro h; exact hlen (by rw [h])

end Go.Proofs.Ytclgjiffpijgmaa.CtD

namespace Go.Proofs.Ytclgjiffpijgmaa.CtR
open Go Go.CT CtF

theorem cellI (p : Pg) (a : Int) (hl : p.vars.length ≤ mx) (ha : 0 ≤ a ∧ a ≤ 1000) : DC Try.prog 116 [.agg p.cells, DI .i64 a] [] (fun r h => r = DI .i64 (p.vars.length + a) ∧ h = []) := by
  have hmx := mx_eq
  obtain ⟨vs, ar, bd⟩ := p
  have hl : vs.length ≤ mx := hl
  refine dcZ Try.func116 ?_
  simp (maxSteps := 9999999) only [go_sem]
  iterate 2 ((try (refine drvZ Try.func116 ?_; simp (maxSteps := 9999999) only [go_sem])); (try ((with_reducible refine And.intro ?_ ?_) <;> (repeat' with_reducible apply And.intro) <;> try exact sd)))
  exact RetOb.plain (d := DI .i64 _) ⟨rfl, rfl⟩ rfl
theorem cellsI (p : Pg) (hl : p.vars.length ≤ mx) (hl2 : p.arrays.length ≤ mx) : DC Try.prog 70 [.agg p.cells] [] (fun r h => r = DI .i64 ((p.vars.length + p.arrays.length : Nat) : Int) ∧ h = []) := by
  have hmx := mx_eq
  obtain ⟨vs, ar, bd⟩ := p
  have hl : vs.length ≤ mx := hl
  have hl2 : ar.length ≤ mx := hl2
  refine dcZ Try.func70 ?_
  simp (maxSteps := 9999999) only [go_sem]
  iterate 2 ((try (refine drvZ Try.func70 ?_; simp (maxSteps := 9999999) only [go_sem])); (try ((with_reducible refine And.intro ?_ ?_) <;> (repeat' with_reducible apply And.intro) <;> try exact sd)))
  exact RetOb.plain (d := DI .i64 _) ⟨rfl, rfl⟩ rfl
theorem cellsS (p : Pg) (hl : p.vars.length ≤ mx) (hl2 : p.arrays.length ≤ mx) : DC Try.prog 51 [.agg p.cells] [] (fun r h => r = DI .i64 ((p.vars.length + p.arrays.length : Nat) : Int) ∧ h = []) := by
  have hmx := mx_eq
  obtain ⟨vs, ar, bd⟩ := p
  have hl : vs.length ≤ mx := hl
  have hl2 : ar.length ≤ mx := hl2
  refine dcZ Try.func51 ?_
  simp (maxSteps := 9999999) only [go_sem]
  iterate 2 ((try (refine drvZ Try.func51 ?_; simp (maxSteps := 9999999) only [go_sem])); (try ((with_reducible refine And.intro ?_ ?_) <;> (repeat' with_reducible apply And.intro) <;> try exact sd)))
  exact RetOb.plain (d := DI .i64 _) ⟨rfl, rfl⟩ rfl

/-- The cells that an expression reads, as bits. -/
def occB (nv : Nat) (k v : Int) : Nat := if k = 2 then 2 ^ v.toNat else if k = 3 then 2 ^ (nv + v.toNat) else 0
def occN (nv : Nat) : Nat → Ex → Nat
  | 0, _ => 0
  | d + 1, .mk k v ks => (ks.map (occN nv d)).foldl (fun a b => a ||| b) (occB nv k v)
theorem or_lt {a b : Nat} (ha : a < 16384) (hb : b < 16384) : a ||| b < 16384 := Nat.or_lt_two_pow (n := 14) ha hb
theorem foldl_or_lt : ∀ (l : List Nat) (a : Nat), a < 16384 → (∀ x ∈ l, x < 16384) → l.foldl (fun a b => a ||| b) a < 16384
  | [], a, h, _ => h
  | x :: r, a, h, h2 => foldl_or_lt r _ (or_lt h (h2 x (by simp))) fun y hy => h2 y (by simp [hy])
theorem pow14 {n : Nat} (h : n < 14) : 2 ^ n < 16384 := Nat.lt_of_lt_of_le (Nat.pow_lt_pow_right (by decide) h) (by decide)
theorem pow14i {n : Nat} (h : 2 ^ n < 16384) : ((2 : Int) ^ n) < 16384 := by
  have e : ((2 ^ n : Nat) : Int) = (2 : Int) ^ n := Int.natCast_pow 2 n
  omega
theorem occN_lt {p : Pg} (hn : p.vars.length + p.arrays.length ≤ 14) : ∀ (d : Nat) (e : Ex), shape p d e = true → occN p.vars.length d e < 16384
  | 0, _, _ => by simp [occN]
  | d + 1, .mk k v ks, h => by
    obtain ⟨g1, g2, g3⟩ := shape_succ h
    obtain ⟨hl3, hla, hv0, hv1⟩ := fits_len g1
    refine foldl_or_lt _ _ ?_ fun x hx => ?_
    · unfold occB
      split
      · rename_i hk; subst hk; simp only [limit] at hv1; exact pow14 (by simp at hv1; omega)
      · split
        · rename_i hk; subst hk; simp only [limit] at hv1; exact pow14 (by simp at hv1; omega)
        · decide
    · obtain ⟨y, hy, rfl⟩ := List.mem_map.1 hx
      exact occN_lt hn d y (g2 y hy)
theorem or_succ (f : Ex → Nat) (a : Nat) (ks : List Ex) (i : Nat) (x : Ex) (h : ks[i]? = some x) : ((ks.take (i + 1)).map f).foldl (fun a b => a ||| b) a = ((ks.take i).map f).foldl (fun a b => a ||| b) a ||| f x := by
  rw [List.take_add_one, h]
  simp

theorem occurringI (p : Pg) (hn : p.vars.length + p.arrays.length ≤ 14) : ∀ (d : Nat) (e : Ex), shape p d e = true → DC Try.prog 117 [.agg p.cells, .agg e.cells] [] (fun r h => r = DI .i64 (occN p.vars.length d e) ∧ h = []) := by
  have hmx := mx_eq
  intro d
  induction d with
  | zero => intro e h; simp [shape] at h
  | succ d ih =>
    intro e hsh
    obtain ⟨k, v, ks⟩ := e
    obtain ⟨g1, g2, g3⟩ := shape_succ hsh
    obtain ⟨hl3, hla, hv0, hv1⟩ := fits_len g1
    have hle := fun e h => occN_lt hn d e h
    have hacc0 := fun i => foldl_or_lt ((ks.take i).map (occN p.vars.length d)) (occB p.vars.length k v)
    have hmem : ∀ i, ∀ x ∈ (ks.take i).map (occN p.vars.length d), x < 16384 := fun i x hx => by
      obtain ⟨y, hy, rfl⟩ := List.mem_map.1 hx
      exact hle y (g2 y (List.mem_of_mem_take hy))
    have hcell := cellI p v (by omega) 
    have hlim : k = 2 → v < p.vars.length := fun hk => by subst hk; simpa [limit] using hv1
    have hlim3 : k = 3 → v < p.arrays.length := fun hk => by subst hk; simpa [limit] using hv1
    obtain ⟨vs, ar, bd⟩ := p
    have hn : vs.length + ar.length ≤ 14 := hn
    simp only at hlim hlim3 hacc0 hmem hcell
    have hob : occB vs.length k v < 16384 := by
      unfold occB
      split
      · rename_i hk; have := hlim hk; exact pow14 (by omega)
      · split
        · rename_i hk; have := hlim3 hk; exact pow14 (by omega)
        · decide
    have hacc := fun i => hacc0 i hob (hmem i)
    generalize hR : (fun (r : D) (h : List (Option (List C))) => r = DI .i64 (occN vs.length (d + 1) (.mk k v ks)) ∧ h = []) = R
    have key : k = 2 ∨ k = 3 ∨ (k ≠ 2 ∧ k ≠ 3) := by omega
    rcases key with hk | hk | ⟨hk2, hk3⟩
    · have hv2 := hlim hk
      have hB : ((occB vs.length k v : Nat) : Int) = 1 * 2 ^ v.toNat := by unfold occB; rw [if_pos hk, Int.natCast_pow, Int.one_mul]; rfl
      have hp := pow14 (show v.toNat < 14 by omega)
      have hpi : ((2 : Int) ^ v.toNat) < 16384 := pow14i hp
      have hpp : (0 : Int) < 2 ^ v.toNat := Int.pow_pos (by decide)
      have e2 : (k == 2) = true := by simp [hk]
      have f2 : (k = 2) = True := by simp [hk]
      have hbit : ((IntKind.i64).bits : Int) = 64 := rfl
      refine dcZ Try.func117 ?_
      simp (maxSteps := 9999999) only [go_sem, e2, f2]
      iterate 4 ((try (refine drvZ Try.func117 ?_; simp (maxSteps := 9999999) only [go_sem, e2, f2, hbit])); (try ((with_reducible refine And.intro ?_ ?_) <;> (repeat' with_reducible apply And.intro) <;> try exact sd)))
      refine Go.loopQ (fun i : Nat => [(2, .c (.ptr 0 0)), (5, DI .i64 (((ks.take i).map (occN vs.length d)).foldl (fun a b => a ||| b) (occB vs.length k v) : Nat)), (23, .c (.isl 3 (Ex.cellsL ks))), (24, DI .i64 ks.length), (25, DI .i64 i)]) (fun i => [(0, some (Pg.cells ⟨vs, ar, bd⟩))])
        4096 (fun i => i ≤ ks.length) (fun i => ks.length - i) ?_ 0 some [] _ (Nat.zero_le _) ?_
      · intro i hi again
        rcases Nat.lt_or_ge i ks.length with hlt | hge
        · obtain ⟨⟨k', v', ks'⟩, hx⟩ : ∃ x, ks[i]? = some x := ⟨ks[i], by simp [hlt]⟩
          have hsc := or_succ (occN vs.length d) (occB vs.length k v) ks i _ hx
          have ha := hacc i
          have hb := hle (.mk k' v' ks') (g2 _ (List.mem_of_getElem? hx))
          have hc := hacc (i + 1)
          rw [hsc] at hc
          simp only at hb
          generalize ((ks.take i).map (occN vs.length d)).foldl (fun a b => a ||| b) (occB vs.length k v) = acc at *
          refine drvL Try.func117 ?_
          simp (maxSteps := 9999999) only [go_sem, hx, hlt]
          iterate 2 ((try (refine drvZ Try.func117 ?_; simp (maxSteps := 9999999) only [go_sem, hx, hlt])); (try ((with_reducible refine And.intro ?_ ?_) <;> (repeat' with_reducible apply And.intro) <;> try exact sd)))
          refine XK.plain (ih (.mk k' v' ks') (g2 _ (List.mem_of_getElem? hx))) ok117 ?_ (hbT ())
          iterate 3 ((try (refine drvZ Try.func117 ?_; simp (maxSteps := 9999999) only [go_sem, hx, hlt])); (try ((with_reducible refine And.intro ?_ ?_) <;> (repeat' with_reducible apply And.intro) <;> try exact sd)))
          refine again (i + 1) some [] _ hlt (by omega) ?_
          simp (maxSteps := 9999999) only [go_sem, TmOK, DM, DMs, CM, CMs, forall_eq, exists_eq_left, Mq, HpOK, LowOK, hsc]
          simp
          rw [← List.map_take, hsc]
        · have hn : ¬ i < ks.length := by omega
          obtain rfl : i = ks.length := by omega
          refine drvL Try.func117 ?_
          simp (maxSteps := 9999999) only [go_sem, hn, List.take_length]
          iterate 2 ((try (refine drvZ Try.func117 ?_; simp (maxSteps := 9999999) only [go_sem, hn, List.take_length])); (try ((with_reducible refine And.intro ?_ ?_) <;> (repeat' with_reducible apply And.intro) <;> try exact sd)))
          exact RetOb.plain (d := DI .i64 _) (by rw [← hR]; exact ⟨rfl, rfl⟩) rfl
      · simp (maxSteps := 9999999) only [go_sem, TmOK, DM, DMs, CM, CMs, forall_eq, exists_eq_left, Mq, HpOK, LowOK, List.take_zero, List.map_nil, List.foldl_nil]
        simp [hB]
    · have hv2 := hlim3 hk
      have hB : ((occB vs.length k v : Nat) : Int) = 1 * 2 ^ ((vs.length : Int) + v).toNat := by
        have : ((vs.length : Int) + v).toNat = vs.length + v.toNat := by omega
        rw [this]; unfold occB; rw [if_neg (by omega), if_pos hk, Int.natCast_pow, Int.one_mul]; rfl
      have hp := pow14 (show ((vs.length : Int) + v).toNat < 14 by omega)
      have hpi : ((2 : Int) ^ ((vs.length : Int) + v).toNat) < 16384 := pow14i hp
      have hpp : (0 : Int) < 2 ^ ((vs.length : Int) + v).toNat := Int.pow_pos (by decide)
      have e2 : (k == 2) = false := by simp [hk]
      have f2 : (k = 2) = False := by simp [hk]
      have e3 : (k == 3) = true := by simp [hk]
      have f3 : (k = 3) = True := by simp [hk]
      have hbit : ((IntKind.i64).bits : Int) = 64 := rfl
      refine dcZ Try.func117 ?_
      simp (maxSteps := 9999999) only [go_sem, e2, f2, e3, f3]
      iterate 4 ((try (refine drvZ Try.func117 ?_; simp (maxSteps := 9999999) only [go_sem, e2, f2, e3, f3, hbit])); (try ((with_reducible refine And.intro ?_ ?_) <;> (repeat' with_reducible apply And.intro) <;> try exact sd)))
      refine XK.plain (hcell (by omega)) ok116 ?_ (hbT ())
      iterate 4 ((try (refine drvZ Try.func117 ?_; simp (maxSteps := 9999999) only [go_sem, e2, f2, e3, f3, hbit])); (try ((with_reducible refine And.intro ?_ ?_) <;> (repeat' with_reducible apply And.intro) <;> try exact sd)))
      refine Go.loopQ (fun i : Nat => [(2, .c (.ptr 0 0)), (5, DI .i64 (((ks.take i).map (occN vs.length d)).foldl (fun a b => a ||| b) (occB vs.length k v) : Nat)), (23, .c (.isl 3 (Ex.cellsL ks))), (24, DI .i64 ks.length), (25, DI .i64 i)]) (fun i => [(0, some (Pg.cells ⟨vs, ar, bd⟩))])
        4096 (fun i => i ≤ ks.length) (fun i => ks.length - i) ?_ 0 some [] _ (Nat.zero_le _) ?_
      · intro i hi again
        rcases Nat.lt_or_ge i ks.length with hlt | hge
        · obtain ⟨⟨k', v', ks'⟩, hx⟩ : ∃ x, ks[i]? = some x := ⟨ks[i], by simp [hlt]⟩
          have hsc := or_succ (occN vs.length d) (occB vs.length k v) ks i _ hx
          have ha := hacc i
          have hb := hle (.mk k' v' ks') (g2 _ (List.mem_of_getElem? hx))
          have hc := hacc (i + 1)
          rw [hsc] at hc
          simp only at hb
          generalize ((ks.take i).map (occN vs.length d)).foldl (fun a b => a ||| b) (occB vs.length k v) = acc at *
          refine drvL Try.func117 ?_
          simp (maxSteps := 9999999) only [go_sem, hx, hlt]
          iterate 2 ((try (refine drvZ Try.func117 ?_; simp (maxSteps := 9999999) only [go_sem, hx, hlt])); (try ((with_reducible refine And.intro ?_ ?_) <;> (repeat' with_reducible apply And.intro) <;> try exact sd)))
          refine XK.plain (ih (.mk k' v' ks') (g2 _ (List.mem_of_getElem? hx))) ok117 ?_ (hbT ())
          iterate 3 ((try (refine drvZ Try.func117 ?_; simp (maxSteps := 9999999) only [go_sem, hx, hlt])); (try ((with_reducible refine And.intro ?_ ?_) <;> (repeat' with_reducible apply And.intro) <;> try exact sd)))
          refine again (i + 1) some [] _ hlt (by omega) ?_
          simp (maxSteps := 9999999) only [go_sem, TmOK, DM, DMs, CM, CMs, forall_eq, exists_eq_left, Mq, HpOK, LowOK, hsc]
          simp
          rw [← List.map_take, hsc]
        · have hn : ¬ i < ks.length := by omega
          obtain rfl : i = ks.length := by omega
          refine drvL Try.func117 ?_
          simp (maxSteps := 9999999) only [go_sem, hn, List.take_length]
          iterate 2 ((try (refine drvZ Try.func117 ?_; simp (maxSteps := 9999999) only [go_sem, hn, List.take_length])); (try ((with_reducible refine And.intro ?_ ?_) <;> (repeat' with_reducible apply And.intro) <;> try exact sd)))
          exact RetOb.plain (d := DI .i64 _) (by rw [← hR]; exact ⟨rfl, rfl⟩) rfl
      · simp (maxSteps := 9999999) only [go_sem, TmOK, DM, DMs, CM, CMs, forall_eq, exists_eq_left, Mq, HpOK, LowOK, List.take_zero, List.map_nil, List.foldl_nil]
        simp [hB]
    · have hB : occB vs.length k v = 0 := by simp [occB, hk2, hk3]
      have e2 : (k == 2) = false := by simp [hk2]
      have e3 : (k == 3) = false := by simp [hk3]
      refine dcZ Try.func117 ?_
      simp (maxSteps := 9999999) only [go_sem, hk2, hk3, e2, e3]
      iterate 4 ((try (refine drvZ Try.func117 ?_; simp (maxSteps := 9999999) only [go_sem, e2, e3, hk2, hk3])); (try ((with_reducible refine And.intro ?_ ?_) <;> (repeat' with_reducible apply And.intro) <;> try exact sd)))
      refine Go.loopQ (fun i : Nat => [(2, .c (.ptr 0 0)), (5, DI .i64 (((ks.take i).map (occN vs.length d)).foldl (fun a b => a ||| b) (occB vs.length k v) : Nat)), (23, .c (.isl 3 (Ex.cellsL ks))), (24, DI .i64 ks.length), (25, DI .i64 i)]) (fun i => [(0, some (Pg.cells ⟨vs, ar, bd⟩))])
        4096 (fun i => i ≤ ks.length) (fun i => ks.length - i) ?_ 0 some [] _ (Nat.zero_le _) ?_
      · intro i hi again
        rcases Nat.lt_or_ge i ks.length with hlt | hge
        · obtain ⟨⟨k', v', ks'⟩, hx⟩ : ∃ x, ks[i]? = some x := ⟨ks[i], by simp [hlt]⟩
          have hsc := or_succ (occN vs.length d) (occB vs.length k v) ks i _ hx
          have ha := hacc i
          have hb := hle (.mk k' v' ks') (g2 _ (List.mem_of_getElem? hx))
          have hc := hacc (i + 1)
          rw [hsc] at hc
          simp only at hb
          generalize ((ks.take i).map (occN vs.length d)).foldl (fun a b => a ||| b) (occB vs.length k v) = acc at *
          refine drvL Try.func117 ?_
          simp (maxSteps := 9999999) only [go_sem, hx, hlt]
          iterate 2 ((try (refine drvZ Try.func117 ?_; simp (maxSteps := 9999999) only [go_sem, hx, hlt])); (try ((with_reducible refine And.intro ?_ ?_) <;> (repeat' with_reducible apply And.intro) <;> try exact sd)))
          refine XK.plain (ih (.mk k' v' ks') (g2 _ (List.mem_of_getElem? hx))) ok117 ?_ (hbT ())
          iterate 3 ((try (refine drvZ Try.func117 ?_; simp (maxSteps := 9999999) only [go_sem, hx, hlt])); (try ((with_reducible refine And.intro ?_ ?_) <;> (repeat' with_reducible apply And.intro) <;> try exact sd)))
          refine again (i + 1) some [] _ hlt (by omega) ?_
          simp (maxSteps := 9999999) only [go_sem, TmOK, DM, DMs, CM, CMs, forall_eq, exists_eq_left, Mq, HpOK, LowOK, hsc]
          simp
          rw [← List.map_take, hsc]
        · have hn : ¬ i < ks.length := by omega
          obtain rfl : i = ks.length := by omega
          refine drvL Try.func117 ?_
          simp (maxSteps := 9999999) only [go_sem, hn, List.take_length]
          iterate 2 ((try (refine drvZ Try.func117 ?_; simp (maxSteps := 9999999) only [go_sem, hn, List.take_length])); (try ((with_reducible refine And.intro ?_ ?_) <;> (repeat' with_reducible apply And.intro) <;> try exact sd)))
          exact RetOb.plain (d := DI .i64 _) (by rw [← hR]; exact ⟨rfl, rfl⟩) rfl
      · simp (maxSteps := 9999999) only [go_sem, TmOK, DM, DMs, CM, CMs, forall_eq, exists_eq_left, Mq, HpOK, LowOK, List.take_zero, List.map_nil, List.foldl_nil]
        simp [hB]
end Go.Proofs.Ytclgjiffpijgmaa.CtR

namespace Go.Proofs.Ytclgjiffpijgmaa.CtD
open Go Go.CT CtF CtR

theorem ownExpr (p : Pg) : ∀ (d : Nat) (e : Ex), CtR.shape p d e = true → DC Try.prog 118 [.agg e.cells] [] (fun r h => r = .agg e.cells ∧ h = []) := by
  have hmx := mx_eq
  intro d
  induction d with
  | zero => intro e h; simp [CtR.shape] at h
  | succ d ih =>
    intro e hsh
    obtain ⟨k, v, ks⟩ := e
    obtain ⟨g1, g2, g3⟩ := shape_succ hsh
    obtain ⟨hl3, hla, hv0, hv1⟩ := fits_len g1
    refine dcZ Try.func118 ?_
    simp (maxSteps := 9999999) only [go_sem]
    iterate 2 ((try (refine drvZ Try.func118 ?_; simp (maxSteps := 9999999) only [go_sem])); (try ((with_reducible refine And.intro ?_ ?_) <;> (repeat' with_reducible apply And.intro) <;> try exact sd)))
    refine Go.loopQ (fun i : Nat => [(1, .c (.ptr 0 0)), (2, .c (.ptr 64 0)), (3, .c (.ptr 66 0)), (12, .c (.isl 3 (Ex.cellsL ks))), (13, DI .i64 ks.length), (14, DI .i64 i)])
      (fun i => [(0, some (Ex.cells (.mk k v ks))), (64, some [I64 0, I64 0, .v (.slice none 0 0)]), (66, some [I64 k, I64 v, .msl 67 3 0 i]), (67, some (exC (ks.take i)))])
      4096 (fun i => i ≤ ks.length) (fun i => ks.length - i) ?_ 0 (fun j => if j = 66 then some 448 else if j = 67 then none else some j) [] _ (Nat.zero_le _) ?_
    · intro i hi again
      rcases Nat.lt_or_ge i ks.length with hlt | hge
      · obtain ⟨⟨k', v', ks'⟩, hx⟩ : ∃ x, ks[i]? = some x := ⟨ks[i], by simp [hlt]⟩
        have hsx : ks.take (i + 1) = ks.take i ++ [.mk k' v' ks'] := by rw [List.take_add_one, hx]; rfl
        have hel : (exC (ks.take i)).length = i * 3 := by rw [exC_len, List.length_take]; congr 1; omega
        refine drvL Try.func118 ?_
        simp (maxSteps := 9999999) only [go_sem, hx, hlt]
        iterate 2 ((try (refine drvZ Try.func118 ?_; simp (maxSteps := 9999999) only [go_sem, hx, hlt])); (try ((with_reducible refine And.intro ?_ ?_) <;> (repeat' with_reducible apply And.intro) <;> try exact sd)))
        refine XK.plain (ih _ (g2 _ (List.mem_of_getElem? hx))) ok118 ?_ (hbT ()) (fun _ => by kernel_rfl)
        iterate 4 ((try (refine drvZ Try.func118 ?_; simp (maxSteps := 9999999) only [go_sem, hx, hlt, hel])); (try ((with_reducible refine And.intro ?_ ?_) <;> (repeat' with_reducible apply And.intro) <;> try exact sd)))
        refine again (i + 1) (fun j => if j = 67 then some 4736 else some j) [] _ hlt (by omega) ?_
        simp (maxSteps := 9999999) only [go_sem, TmOK, DM, DMs, CM, CMs, forall_eq, exists_eq_left, Mq, HpOK, LowOK, hsx, exC_snoc]
        simp
        exact CMs.kf (kf_app (exC_kf _) (by simp [kf]))
      · have hn : ¬ i < ks.length := by omega
        obtain rfl : i = ks.length := by omega
        refine drvL Try.func118 ?_
        simp (maxSteps := 9999999) only [go_sem, hn, List.take_length]
        iterate 2 ((try (refine drvZ Try.func118 ?_; simp (maxSteps := 9999999) only [go_sem, hn, List.take_length])); (try ((with_reducible refine And.intro ?_ ?_) <;> (repeat' with_reducible apply And.intro) <;> try exact sd)))
        refine RetOb.ofQ (fun j => none) [67] (.agg (Ex.cells (.mk k v ks))) [] ?_ ⟨rfl, rfl⟩ (by simp)
        have g1 : (Ex.cellsL ks).flatten = exC ks := by rw [Ex.cellsL_eq]; rfl
        have g2 : ∀ x ∈ Ex.cellsL ks, x.length = 3 := fun x hx => by rw [Ex.cellsL_eq] at hx; obtain ⟨e, _, rfl⟩ := List.mem_map.1 hx; exact Ex.cells_len e
        have g3 : ∀ x ∈ Ex.cellsL ks, ∀ c ∈ x, kf c = true := fun x hx => by rw [Ex.cellsL_eq] at hx; obtain ⟨e, _, rfl⟩ := List.mem_map.1 hx; exact ex_kf e
        simp only [enumL, hOf, DM, DMs, CM, CMs, HpOK, LowOK, upd, Ex.cells, Ex.cellsL_length, g1]
        first | (simp; exact ⟨g2, g3⟩) | (simp [g2]; exact g3) | exact ⟨g2, g3⟩
    · simp (maxSteps := 9999999) only [go_sem, TmOK, DM, DMs, CM, CMs, forall_eq, exists_eq_left, Mq, HpOK, LowOK]
      simp [exC]

theorem ownExpr0 : DC Try.prog 118 [.agg (Ex.cells (.mk 0 0 []))] [] (fun r h => r = .agg (Ex.cells (.mk 0 0 [])) ∧ h = []) := by
  refine dcZ Try.func118 ?_
  simp (maxSteps := 9999999) only [go_sem, Ex.cellsL, Int.natCast_zero]
  iterate 2 ((try (refine drvZ Try.func118 ?_; simp (maxSteps := 9999999) only [go_sem, Ex.cellsL, Int.natCast_zero])); (try ((with_reducible refine And.intro ?_ ?_) <;> (repeat' with_reducible apply And.intro) <;> try exact sd)))
  refine Go.loop ?_
  have hz : ((0 : Int) < 0) = False := eq_false (by omega)
  refine drvL Try.func118 ?_
  simp (maxSteps := 9999999) only [go_sem, Ex.cellsL, Int.natCast_zero, hz]
  iterate 2 ((try (refine drvZ Try.func118 ?_; simp (maxSteps := 9999999) only [go_sem, Ex.cellsL, Int.natCast_zero, hz])); (try ((with_reducible refine And.intro ?_ ?_) <;> (repeat' with_reducible apply And.intro) <;> try exact sd)))
  refine RetOb.ofQ (fun j => none) [] (.agg (Ex.cells (.mk 0 0 []))) [] ?_ ⟨rfl, rfl⟩ (by simp)
  simp [enumL, hOf, DM, DMs, CM, CMs, HpOK, LowOK, upd, Ex.cells, Ex.cellsL]
end Go.Proofs.Ytclgjiffpijgmaa.CtD

namespace Go.Proofs.Ytclgjiffpijgmaa.CtD
open Go Go.CT CtF CtR

theorem none0_eq {e : Ex} (h : none0 e = true) : e = .mk 0 0 [] := by
  obtain ⟨k, v, ks⟩ := e
  simp only [none0, Ex.kind, Ex.value, Ex.kids, Bool.and_eq_true, beq_iff_eq, decide_eq_true_eq] at h
  obtain ⟨⟨rfl, rfl⟩, h3⟩ := h
  have : ks = [] := List.isEmpty_iff.1 h3
  rw [this]
theorem exprs_of {p : Pg} {d : Nat} {k t : Int} {ix v : Ex} {c : Int} {b e : List St1} (h : stmtOK p (d + 1) (.mk k t ix v c b e) = true) :
    (CtR.shape p 5 ix = true ∨ ix = .mk 0 0 []) ∧ (CtR.shape p 5 v = true ∨ v = .mk 0 0 []) := by
  have h1 := (stmtOK_succ h).1
  have hk := head_kind h1
  unfold headOK parts at h1
  rcases hk with ⟨hk, _, _, hr⟩ | ⟨rfl, _, _, hr, _, hr2⟩ | ⟨rfl, hr⟩ | ⟨rfl, _⟩
  · refine ⟨.inr (none0_eq ?_), .inl (right_shape hr).1⟩
    have hk4 : k ≠ 4 := by omega
    have hk2 : (k == 2) = false := by simp; omega
    simp [hk4, hk2] at h1
    exact h1.1.2.2
  · exact ⟨.inl (right_shape hr).1, .inl (right_shape hr2).1⟩
  · refine ⟨.inr (none0_eq ?_), .inl (right_shape hr).1⟩
    simp at h1
    exact h1.1.2.2
  · simp at h1
    refine ⟨.inr (none0_eq ?_), .inr (none0_eq ?_)⟩ <;> grind
theorem val_none {p : Pg} {d : Nat} {t : Int} {ix v : Ex} {c : Int} {b e : List St1} (h : stmtOK p (d + 1) (.mk 4 t ix v c b e) = true) : ix = .mk 0 0 [] ∧ v = .mk 0 0 [] := by
  have h1 := (stmtOK_succ h).1
  unfold headOK parts at h1
  simp at h1
  exact ⟨none0_eq (by grind), none0_eq (by grind)⟩
end Go.Proofs.Ytclgjiffpijgmaa.CtD

namespace Go.Proofs.Ytclgjiffpijgmaa.CtD
open Go Go.CT CtF CtR

theorem ownE {p : Pg} {e : Ex} (h : CtR.shape p 5 e = true ∨ e = .mk 0 0 []) : DC Try.prog 118 [.agg e.cells] [] (fun r h => r = .agg e.cells ∧ h = []) := by
  rcases h with h | rfl
  · exact ownExpr p 5 e h
  · exact ownExpr0

theorem ownStmts (p : Pg) : ∀ (d : Nat) (l : List St1), (∀ s ∈ l, stmtOK p d s = true) → lsize d l ≤ 1000 → DC Try.prog 74 [.c (.isl 11 (St1.cellsL l))] [] (fun r h => r = .c (.isl 11 (St1.cellsL l)) ∧ h = []) := by
  have hmx := mx_eq
  intro d
  induction d with
  | zero =>
    intro l hok hsz
    have hnil : l = [] := by
      cases l with
      | nil => rfl
      | cons a r => have := hok a (by simp); simp [stmtOK] at this
    subst hnil
    refine dcZ Try.func74 ?_
    simp (maxSteps := 9999999) only [go_sem, St1.cellsL, Int.natCast_zero]
    ((try (refine drvZ Try.func74 ?_; simp (maxSteps := 9999999) only [go_sem, St1.cellsL, Int.natCast_zero])); (try ((with_reducible refine And.intro ?_ ?_) <;> (repeat' with_reducible apply And.intro) <;> try exact sd)))
    refine Go.loop ?_
    have hz : ((0 : Int) < 0) = False := eq_false (by omega)
    refine drvL Try.func74 ?_
    simp (maxSteps := 9999999) only [go_sem, St1.cellsL, Int.natCast_zero, hz]
    ((try (refine drvZ Try.func74 ?_; simp (maxSteps := 9999999) only [go_sem, St1.cellsL, Int.natCast_zero, hz])); (try ((with_reducible refine And.intro ?_ ?_) <;> (repeat' with_reducible apply And.intro) <;> try exact sd)))
    refine RetOb.ofQ (fun j => none) [] (.c (.isl 11 [])) [] ?_ ⟨rfl, rfl⟩ (by simp)
    simp [enumL, hOf, DM, CM, HpOK, LowOK, upd]
  | succ d ih =>
    intro l hok hsz
    have hsub := lsize_subs d l
    refine dcZ Try.func74 ?_
    simp (maxSteps := 9999999) only [go_sem]
    ((try (refine drvZ Try.func74 ?_; simp (maxSteps := 9999999) only [go_sem])); (try ((with_reducible refine And.intro ?_ ?_) <;> (repeat' with_reducible apply And.intro) <;> try exact sd)))
    refine Go.loopQ (fun i : Nat => [(3, .c (.msl 67 11 0 i)), (6, .c (.isl 11 (St1.cellsL l))), (7, DI .i64 l.length), (8, DI .i64 i)]) (fun i => [(67, some (stC (l.take i)))])
      4096 (fun i => i ≤ l.length) (fun i => l.length - i) ?_ 0 (fun j => none) [] _ (Nat.zero_le _) ?_
    · intro i hi again
      rcases Nat.lt_or_ge i l.length with hlt | hge
      · obtain ⟨⟨k, t, ⟨ik, iv, iks⟩, ⟨vk, vv, vks⟩, c, b, e⟩, hx⟩ : ∃ x, l[i]? = some x := ⟨l[i], by simp [hlt]⟩
        have hsx : l.take (i + 1) = l.take i ++ [.mk k t (.mk ik iv iks) (.mk vk vv vks) c b e] := by rw [List.take_add_one, hx]; rfl
        have hel : (stC (l.take i)).length = i * 11 := by rw [stC_len, List.length_take]; congr 1; omega
        have hsok := hok _ (List.mem_of_getElem? hx)
        have hex := exprs_of hsok
        have hbe := stmtOK_succ hsok
        have a1 := tsum_succ (subs d) l i _ hx
        have a2 := tsum_le (subs d) l (i + 1)
        simp only [subs, St1.body, St1.els] at a1 a2
        have ihb := ih b hbe.2.1 (by omega)
        have ihe := ih e hbe.2.2 (by omega)
        refine drvL Try.func74 ?_
        simp (maxSteps := 9999999) only [go_sem, hx, hlt]
        iterate 3 ((try (refine drvZ Try.func74 ?_; simp (maxSteps := 9999999) only [go_sem, hx, hlt])); (try ((with_reducible refine And.intro ?_ ?_) <;> (repeat' with_reducible apply And.intro) <;> try exact sd)))
        refine XK.plain (ownE hex.1) ok118 ?_ (hbT ()) (fun _ => by kernel_rfl)
        iterate 2 ((try (refine drvZ Try.func74 ?_; simp (maxSteps := 9999999) only [go_sem])); (try ((with_reducible refine And.intro ?_ ?_) <;> (repeat' with_reducible apply And.intro) <;> try exact sd)))
        refine XK.plain (ownE hex.2) ok118 ?_ (hbT ()) (fun _ => by kernel_rfl)
        iterate 2 ((try (refine drvZ Try.func74 ?_; simp (maxSteps := 9999999) only [go_sem])); (try ((with_reducible refine And.intro ?_ ?_) <;> (repeat' with_reducible apply And.intro) <;> try exact sd)))
        refine XK.plain ihb ok74 ?_ (hbT ()) (fun _ => by kernel_rfl)
        iterate 2 ((try (refine drvZ Try.func74 ?_; simp (maxSteps := 9999999) only [go_sem])); (try ((with_reducible refine And.intro ?_ ?_) <;> (repeat' with_reducible apply And.intro) <;> try exact sd)))
        refine XK.plain ihe ok74 ?_ (hbT ()) (fun _ => by kernel_rfl)
        iterate 4 ((try (refine drvZ Try.func74 ?_; simp (maxSteps := 9999999) only [go_sem, hel])); (try ((with_reducible refine And.intro ?_ ?_) <;> (repeat' with_reducible apply And.intro) <;> try exact sd)))
        refine again (i + 1) (fun j => if j = 67 then some 5760 else some j) [] _ hlt (by omega) ?_
        simp (maxSteps := 9999999) only [go_sem, TmOK, DM, DMs, CM, CMs, forall_eq, exists_eq_left, Mq, HpOK, LowOK, hsx, stC_snoc, List.cons_append, List.nil_append]
        simp
        exact CMs.kf (kf_app (stC_kf _) (by simp [kf]))
      · have hn : ¬ i < l.length := by omega
        obtain rfl : i = l.length := by omega
        refine drvL Try.func74 ?_
        simp (maxSteps := 9999999) only [go_sem, hn, List.take_length]
        iterate 2 ((try (refine drvZ Try.func74 ?_; simp (maxSteps := 9999999) only [go_sem, hn, List.take_length])); (try ((with_reducible refine And.intro ?_ ?_) <;> (repeat' with_reducible apply And.intro) <;> try exact sd)))
        refine RetOb.ofQ (fun j => none) [67] (.c (.isl 11 (St1.cellsL l))) [] ?_ ⟨rfl, rfl⟩ (by simp)
        have g1 : (St1.cellsL l).flatten = stC l := by rw [St1.cellsL_eq]; rfl
        have g2 : ∀ x ∈ St1.cellsL l, x.length = 11 := fun x hx => by rw [St1.cellsL_eq] at hx; obtain ⟨e, _, rfl⟩ := List.mem_map.1 hx; exact St1.cells_len e
        have g3 : ∀ x ∈ St1.cellsL l, ∀ c ∈ x, kf c = true := fun x hx => by rw [St1.cellsL_eq] at hx; obtain ⟨e, _, rfl⟩ := List.mem_map.1 hx; exact st_kf e
        simp only [enumL, hOf, DM, DMs, CM, CMs, HpOK, LowOK, upd, St1.cellsL_length, g1]
        first | (simp; exact ⟨g2, g3⟩) | (simp [g2]; exact g3) | exact ⟨g2, g3⟩
    · simp (maxSteps := 9999999) only [go_sem, TmOK, DM, DMs, CM, CMs, forall_eq, exists_eq_left, Mq, HpOK, LowOK]
      simp [stC]
end Go.Proofs.Ytclgjiffpijgmaa.CtD

namespace Go.Proofs.Ytclgjiffpijgmaa.CtD
open Go Go.CT CtF CtR

/-- A statement of a slice, the wanted cells given as a predicate. -/
def cutS (q : Nat → Bool) (nv : Nat) (f : List St1 → List St1) : St1 → Option St1
  | .mk k t ix v c b e =>
    if k = 5 then some (.mk k t ix v c b e) else if k = 1 then (if q t.toNat then some (.mk k t ix v c b e) else none) else if k = 2 then (if q (nv + t.toNat) then some (.mk k t ix v c b e) else none)
    else if 0 < (f b).length + (f e).length then some (.mk k t ix v c (f b) (f e)) else none
def cutL (q : Nat → Bool) (nv : Nat) : Nat → List St1 → List St1
  | 0, _ => []
  | d + 1, l => l.filterMap (cutS q nv (cutL q nv d))
/-- The cells that the statements of a slice read, added to a set. -/
def addS (q : Nat → Bool) (nv : Nat) (f : List St1 → List St1) (g : List St1 → Nat) (a : Nat) : St1 → Nat
  | .mk k t ix v c b e =>
    let a1 := if k = 5 ∨ k = 1 ∨ k = 2 then a else a ||| (g b ||| g e)
    if (cutS q nv f (.mk k t ix v c b e)).isSome then a1 ||| (occN nv 5 v ||| occN nv 5 ix) else a1
def setN (q : Nat → Bool) (nv : Nat) : Nat → List St1 → Nat
  | 0, _ => 0
  | d + 1, l => l.foldl (addS q nv (cutL q nv d) (setN q nv d)) 0

theorem occurring0 (p : Pg) : DC Try.prog 117 [.agg p.cells, .agg (Ex.cells (.mk 0 0 []))] [] (fun r h => r = DI .i64 ((0 : Nat) : Int) ∧ h = []) := by
  obtain ⟨vs, ar, bd⟩ := p
  refine dcZ Try.func117 ?_
  simp (maxSteps := 9999999) only [go_sem, Ex.cellsL, Int.natCast_zero]
  iterate 3 ((try (refine drvZ Try.func117 ?_; simp (maxSteps := 9999999) only [go_sem, Ex.cellsL, Int.natCast_zero])); (try ((with_reducible refine And.intro ?_ ?_) <;> (repeat' with_reducible apply And.intro) <;> try exact sd)))
  refine Go.loop ?_
  have hz : ((0 : Int) < 0) = False := eq_false (by omega)
  refine drvL Try.func117 ?_
  simp (maxSteps := 9999999) only [go_sem, Ex.cellsL, Int.natCast_zero, hz]
  iterate 2 ((try (refine drvZ Try.func117 ?_; simp (maxSteps := 9999999) only [go_sem, Ex.cellsL, Int.natCast_zero, hz])); (try ((with_reducible refine And.intro ?_ ?_) <;> (repeat' with_reducible apply And.intro) <;> try exact sd)))
  exact RetOb.plain (d := DI .i64 _) ⟨rfl, rfl⟩ rfl
theorem occE {p : Pg} {e : Ex} (hn : p.vars.length + p.arrays.length ≤ 14) (h : CtR.shape p 5 e = true ∨ e = .mk 0 0 []) : DC Try.prog 117 [.agg p.cells, .agg e.cells] [] (fun r h => r = DI .i64 (occN p.vars.length 5 e) ∧ h = []) := by
  rcases h with h | rfl
  · exact occurringI p hn 5 e h
  · exact occurring0 p
theorem occE_lt {p : Pg} {e : Ex} (hn : p.vars.length + p.arrays.length ≤ 14) (h : CtR.shape p 5 e = true ∨ e = .mk 0 0 []) : occN p.vars.length 5 e < 16384 := by
  rcases h with h | rfl
  · exact occN_lt hn 5 e h
  · simp [occN, occB]
theorem tbit (N k : Nat) : ((((N : Int) / 2 ^ k).toNat &&& 1 : Nat) : Int) = if N.testBit k then 1 else 0 := by
  have e : ((N : Int) / 2 ^ k).toNat = N / 2 ^ k := by
    have : ((2 : Int) ^ k) = ((2 ^ k : Nat) : Int) := by rw [Int.natCast_pow]; rfl
    rw [this, ← Int.natCast_ediv]; rfl
  rw [e, Nat.and_one_is_mod, Nat.testBit_eq_decide_div_mod_eq]
  by_cases h : N / 2 ^ k % 2 = 1
  · simp [h]
  · have : N / 2 ^ k % 2 = 0 := by omega
    simp [this]
theorem addS_lt {p : Pg} {q : Nat → Bool} {f : List St1 → List St1} {g : List St1 → Nat} (hn : p.vars.length + p.arrays.length ≤ 14) {d a : Nat} {s : St1} (ha : a < 16384) (hg : ∀ l, (∀ x ∈ l, stmtOK p d x = true) → g l < 16384) (hs : stmtOK p (d + 1) s = true) : addS q p.vars.length f g a s < 16384 := by
  obtain ⟨k, t, ix, v, c, b, e⟩ := s
  have hx := exprs_of hs
  have hbe := stmtOK_succ hs
  simp only [addS]
  have h1 : (if k = 5 ∨ k = 1 ∨ k = 2 then a else a ||| (g b ||| g e)) < 16384 := by
    split
    · exact ha
    · exact or_lt ha (or_lt (hg b hbe.2.1) (hg e hbe.2.2))
  split
  · exact or_lt h1 (or_lt (occE_lt hn hx.2) (occE_lt hn hx.1))
  · exact h1
theorem setN_lt {p : Pg} {q : Nat → Bool} (hn : p.vars.length + p.arrays.length ≤ 14) : ∀ (d : Nat) (l : List St1), (∀ s ∈ l, stmtOK p d s = true) → setN q p.vars.length d l < 16384
  | 0, l, _ => by simp [setN]
  | d + 1, l, h => by
    simp only [setN]
    have gen : ∀ (l : List St1) (a : Nat), a < 16384 → (∀ s ∈ l, stmtOK p (d + 1) s = true) → l.foldl (addS q p.vars.length (cutL q p.vars.length d) (setN q p.vars.length d)) a < 16384 := fun l => by
      induction l with
      | nil => intro a ha _; exact ha
      | cons s r ih => intro a ha hs; exact ih _ (addS_lt hn ha (fun l hl => setN_lt hn d l hl) (hs s (by simp))) fun x hx => hs x (by simp [hx])
    exact gen l 0 (by decide) h

theorem sliceI (p : Pg) (hn : p.vars.length + p.arrays.length ≤ 14) (N : Nat) (hN : N < 16384) : ∀ (d : Nat) (l : List St1), (∀ s ∈ l, stmtOK p d s = true) → lsize d l ≤ 1000 →
    DC Try.prog 72 [.agg p.cells, .c (.isl 11 (St1.cellsL l)), DI .i64 N] [] (fun r h => r = .tup [.c (.isl 11 (St1.cellsL (cutL N.testBit p.vars.length d l))), DI .i64 (setN N.testBit p.vars.length d l)] ∧ h = []) := by
  have hmx := mx_eq
  intro d
  induction d with
  | zero =>
    intro l hok hsz
    have hnil : l = [] := by
      cases l with
      | nil => rfl
      | cons a r => have := hok a (by simp); simp [stmtOK] at this
    subst hnil
    obtain ⟨vs, ar, bd⟩ := p
    refine dcZ Try.func72 ?_
    simp (maxSteps := 9999999) only [go_sem, St1.cellsL, Int.natCast_zero]
    iterate 2 ((try (refine drvZ Try.func72 ?_; simp (maxSteps := 9999999) only [go_sem, St1.cellsL, Int.natCast_zero])); (try ((with_reducible refine And.intro ?_ ?_) <;> (repeat' with_reducible apply And.intro) <;> try exact sd)))
    refine Go.loop ?_
    have hz : ((0 : Int) < 0) = False := eq_false (by omega)
    refine drvL Try.func72 ?_
    simp (maxSteps := 9999999) only [go_sem, St1.cellsL, Int.natCast_zero, hz]
    iterate 2 ((try (refine drvZ Try.func72 ?_; simp (maxSteps := 9999999) only [go_sem, St1.cellsL, Int.natCast_zero, hz])); (try ((with_reducible refine And.intro ?_ ?_) <;> (repeat' with_reducible apply And.intro) <;> try exact sd)))
    refine RetOb.ofQ (fun j => none) [] (.tup [.c (.isl 11 []), DI .i64 0]) [] ?_ ⟨by simp [cutL, setN, St1.cellsL], rfl⟩ (by simp)
    simp [enumL, hOf, DM, DMs, CM, HpOK, LowOK, upd]
  | succ d ih =>
    intro l hok hsz
    have hsub := lsize_subs d l
    have hsetl := fun l h => setN_lt (q := N.testBit) hn d l h
    have hpre : ∀ i, (∀ s ∈ l.take i, stmtOK p (d + 1) s = true) := fun i s hs => hok s (List.mem_of_mem_take hs)
    have hsetp := fun i => setN_lt (q := N.testBit) hn (d + 1) (l.take i) (hpre i)
    have hcl : ∀ {i : Nat} {s : St1}, l[i]? = some s → cutL N.testBit p.vars.length (d + 1) (l.take (i + 1)) = cutL N.testBit p.vars.length (d + 1) (l.take i) ++ (cutS N.testBit p.vars.length (cutL N.testBit p.vars.length d) s).toList := fun {i s} h => by
      simp only [cutL]; rw [List.take_add_one, h, List.filterMap_append]
      cases h2 : cutS N.testBit p.vars.length (cutL N.testBit p.vars.length d) s <;> simp [List.filterMap_cons, h2]
    have hst : ∀ {i : Nat} {s : St1}, l[i]? = some s → setN N.testBit p.vars.length (d + 1) (l.take (i + 1)) = addS N.testBit p.vars.length (cutL N.testBit p.vars.length d) (setN N.testBit p.vars.length d) (setN N.testBit p.vars.length (d + 1) (l.take i)) s := fun {i s} h => by
      simp only [setN]; rw [List.take_add_one, h]; simp
    have hcll : ∀ i, (cutL N.testBit p.vars.length (d + 1) (l.take i)).length ≤ i := fun i => by
      simp only [cutL]; exact Nat.le_trans (List.length_filterMap_le _ _) (by simp; omega)
    have hcellI := fun a h => cellI p a (by omega) h
    have hoccE := fun e h => @occE p e hn h
    have hoccL := fun e h => @occE_lt p e hn h
    obtain ⟨vs, ar, bd⟩ := p
    have hn : vs.length + ar.length ≤ 14 := hn
    simp only at hsetl hsetp hcl hst hcll hcellI hoccE hoccL ih
    generalize hR : (fun (r : D) (h : List (Option (List C))) => r = .tup [.c (.isl 11 (St1.cellsL (cutL N.testBit vs.length (d + 1) l))), DI .i64 (setN N.testBit vs.length (d + 1) l)] ∧ h = []) = R
    refine dcZ Try.func72 ?_
    simp (maxSteps := 9999999) only [go_sem]
    iterate 2 ((try (refine drvZ Try.func72 ?_; simp (maxSteps := 9999999) only [go_sem])); (try ((with_reducible refine And.intro ?_ ?_) <;> (repeat' with_reducible apply And.intro) <;> try exact sd)))
    refine Go.loopQ (fun i : Nat => [(2, DI .i64 N), (3, .c (.ptr 0 0)), (8, .c (.msl 67 11 0 (cutL N.testBit vs.length (d + 1) (l.take i)).length)), (9, DI .i64 (setN N.testBit vs.length (d + 1) (l.take i))), (17, .c (.isl 11 (St1.cellsL l))), (18, DI .i64 l.length), (19, DI .i64 i)])
      (fun i => [(0, some (Pg.cells ⟨vs, ar, bd⟩)), (67, some (stC (cutL N.testBit vs.length (d + 1) (l.take i))))])
      4096 (fun i => i ≤ l.length) (fun i => l.length - i) ?_ 0 (fun j => if j = 67 then none else some j) [] _ (Nat.zero_le _) ?_
    · intro i hi again
      have hli := hcll i
      have hsi := hsetp i
      rcases Nat.lt_or_ge i l.length with hlt | hge
      · obtain ⟨⟨k, t, ⟨ik, iv, iks⟩, ⟨vk, vv, vks⟩, c, b, e⟩, hx⟩ : ∃ x, l[i]? = some x := ⟨l[i], by simp [hlt]⟩
        have hsok := hok _ (List.mem_of_getElem? hx)
        have hex := exprs_of hsok
        have hbe := stmtOK_succ hsok
        have hhk := head_kind hbe.1
        simp only at hhk
        have a1 := tsum_succ (subs d) l i _ hx
        have a2 := tsum_le (subs d) l (i + 1)
        simp only [subs, St1.body, St1.els] at a1 a2
        have ihb := ih b hbe.2.1 (by omega)
        have ihe := ih e hbe.2.2 (by omega)
        have hsb := hsetl b hbe.2.1
        have hse := hsetl e hbe.2.2
        have ho1 := hoccE _ hex.2
        have ho2 := hoccE _ hex.1
        have hl1 := hoccL _ hex.2
        have hl2 := hoccL _ hex.1
        have hci := hcl hx
        have hsi2 := hst hx
        have hel := stC_len (cutL N.testBit vs.length (d + 1) (l.take i))
        generalize hCi : cutL N.testBit vs.length (d + 1) (l.take i) = Ci at *
        generalize hSi : setN N.testBit vs.length (d + 1) (l.take i) = Si at *
        generalize hov : occN vs.length 5 (.mk vk vv vks) = ov at *
        generalize hoi : occN vs.length 5 (.mk ik iv iks) = oi at *
        have hor := or_lt hl1 hl2
        have hor2 := or_lt hsi hor
        have key : k = 5 ∨ k = 1 ∨ k = 2 ∨ (k ≠ 5 ∧ k ≠ 1 ∧ k ≠ 2) := by omega
        rcases key with hk | hk | hk | ⟨hk5, hk1, hk2⟩
        · subst hk
          refine drvL Try.func72 ?_
          simp (maxSteps := 9999999) only [go_sem, hx, hlt]
          iterate 4 ((try (refine drvZ Try.func72 ?_; simp (maxSteps := 9999999) only [go_sem])); (try ((with_reducible refine And.intro ?_ ?_) <;> (repeat' with_reducible apply And.intro) <;> try exact sd)))
          have hcut : cutS N.testBit vs.length (cutL N.testBit vs.length d) (.mk 5 t (.mk ik iv iks) (.mk vk vv vks) c b e) = some (.mk 5 t (.mk ik iv iks) (.mk vk vv vks) c b e) := by simp [cutS]
          have hadd : addS N.testBit vs.length (cutL N.testBit vs.length d) (setN N.testBit vs.length d) Si (.mk 5 t (.mk ik iv iks) (.mk vk vv vks) c b e) = Si ||| (ov ||| oi) := by simp only [addS, hcut, Option.isSome_some, if_true, hov, hoi]; simp
          rw [hcut, Option.toList_some] at hci
          rw [hadd] at hsi2
          refine XK.plain ho1 ok117 ?_ (hbT ()) (fun _ => by kernel_rfl)
          iterate 2 ((try (refine drvZ Try.func72 ?_; simp (maxSteps := 9999999) only [go_sem])); (try ((with_reducible refine And.intro ?_ ?_) <;> (repeat' with_reducible apply And.intro) <;> try exact sd)))
          refine XK.plain ho2 ok117 ?_ (hbT ()) (fun _ => by kernel_rfl)
          iterate 5 ((try (refine drvZ Try.func72 ?_; simp (maxSteps := 9999999) only [go_sem, hel])); (try ((with_reducible refine And.intro ?_ ?_) <;> (repeat' with_reducible apply And.intro) <;> try exact sd)))
          refine again (i + 1) (fun j => if j = 67 then some 5824 else some j) [] _ hlt (by omega) ?_
          simp (maxSteps := 9999999) only [go_sem, TmOK, DM, DMs, CM, CMs, forall_eq, exists_eq_left, Mq, HpOK, LowOK, List.cons_append, List.nil_append, hci, hsi2, stC_snoc, List.length_append]
          simp
          exact CMs.kf (kf_app (stC_kf _) (by simp [kf]))
        · subst hk
          have ht : 0 ≤ t ∧ t < (vs.length : Int) := by omega
          have hdv0 : (0 : Int) ≤ (N : Int) / 2 ^ t.toNat := Int.ediv_nonneg (by omega) (Int.le_of_lt (Int.pow_pos (by decide)))
          have hdv1 : (N : Int) / 2 ^ t.toNat ≤ N := Int.ediv_le_self _ (by omega)
          have htb := tbit N (t.toNat)
          have hbits : ((IntKind.i64).bits : Int) = 64 := rfl
          cases hq : N.testBit (t.toNat) with
          | true =>
            rw [hq] at htb
            skip
            simp only [if_true] at htb
            refine drvL Try.func72 ?_
            simp (maxSteps := 9999999) only [go_sem, hx, hlt]
            iterate 6 ((try (refine drvZ Try.func72 ?_; simp (maxSteps := 9999999) only [go_sem, hbits, htb])); (try ((with_reducible refine And.intro ?_ ?_) <;> (repeat' with_reducible apply And.intro) <;> try exact sd)))
            have hcut : cutS N.testBit vs.length (cutL N.testBit vs.length d) (.mk 1 t (.mk ik iv iks) (.mk vk vv vks) c b e) = some (.mk 1 t (.mk ik iv iks) (.mk vk vv vks) c b e) := by simp [cutS, hq]
            have hadd : addS N.testBit vs.length (cutL N.testBit vs.length d) (setN N.testBit vs.length d) Si (.mk 1 t (.mk ik iv iks) (.mk vk vv vks) c b e) = Si ||| (ov ||| oi) := by simp only [addS, hcut, Option.isSome_some, if_true, hov, hoi]; simp
            rw [hcut, Option.toList_some] at hci
            rw [hadd] at hsi2
            refine XK.plain ho1 ok117 ?_ (hbT ()) (fun _ => by kernel_rfl)
            iterate 2 ((try (refine drvZ Try.func72 ?_; simp (maxSteps := 9999999) only [go_sem])); (try ((with_reducible refine And.intro ?_ ?_) <;> (repeat' with_reducible apply And.intro) <;> try exact sd)))
            refine XK.plain ho2 ok117 ?_ (hbT ()) (fun _ => by kernel_rfl)
            iterate 5 ((try (refine drvZ Try.func72 ?_; simp (maxSteps := 9999999) only [go_sem, hel])); (try ((with_reducible refine And.intro ?_ ?_) <;> (repeat' with_reducible apply And.intro) <;> try exact sd)))
            refine again (i + 1) (fun j => if j = 67 then some 6336 else some j) [] _ hlt (by omega) ?_
            simp (maxSteps := 9999999) only [go_sem, TmOK, DM, DMs, CM, CMs, forall_eq, exists_eq_left, Mq, HpOK, LowOK, List.cons_append, List.nil_append, hci, hsi2, stC_snoc, List.length_append]
            simp
            exact CMs.kf (kf_app (stC_kf _) (by simp [kf]))
          | false =>
            rw [hq] at htb
            skip
            simp only [Bool.false_eq_true, if_false] at htb
            refine drvL Try.func72 ?_
            simp (maxSteps := 9999999) only [go_sem, hx, hlt]
            iterate 6 ((try (refine drvZ Try.func72 ?_; simp (maxSteps := 9999999) only [go_sem, hbits, htb])); (try ((with_reducible refine And.intro ?_ ?_) <;> (repeat' with_reducible apply And.intro) <;> try exact sd)))
            have hcut : cutS N.testBit vs.length (cutL N.testBit vs.length d) (.mk 1 t (.mk ik iv iks) (.mk vk vv vks) c b e) = none := by simp [cutS, hq]
            have hadd : addS N.testBit vs.length (cutL N.testBit vs.length d) (setN N.testBit vs.length d) Si (.mk 1 t (.mk ik iv iks) (.mk vk vv vks) c b e) = Si := by simp only [addS, hcut, Option.isSome_none, Bool.false_eq_true, if_false]; simp
            rw [hcut, Option.toList_none, List.append_nil] at hci
            rw [hadd] at hsi2
            refine again (i + 1) some [] _ hlt (by omega) ?_
            simp (maxSteps := 9999999) only [go_sem, TmOK, DM, DMs, CM, CMs, forall_eq, exists_eq_left, Mq, HpOK, LowOK, List.cons_append, List.nil_append, hci, hsi2]
            simp
            exact CMs.kf (stC_kf _)
        · subst hk
          have ht : 0 ≤ t ∧ t < (ar.length : Int) := by omega
          have hdv0 : (0 : Int) ≤ (N : Int) / 2 ^ ((vs.length : Int) + t).toNat := Int.ediv_nonneg (by omega) (Int.le_of_lt (Int.pow_pos (by decide)))
          have hdv1 : (N : Int) / 2 ^ ((vs.length : Int) + t).toNat ≤ N := Int.ediv_le_self _ (by omega)
          have htb := tbit N (((vs.length : Int) + t).toNat)
          have hbits : ((IntKind.i64).bits : Int) = 64 := rfl
          have hpos : ((vs.length : Int) + t).toNat = vs.length + t.toNat := by omega
          cases hq : N.testBit (vs.length + t.toNat) with
          | true =>
            rw [hpos, hq] at htb
            rw [← hpos] at htb
            simp only [if_true] at htb
            refine drvL Try.func72 ?_
            simp (maxSteps := 9999999) only [go_sem, hx, hlt]
            iterate 6 ((try (refine drvZ Try.func72 ?_; simp (maxSteps := 9999999) only [go_sem, hbits, htb])); (try ((with_reducible refine And.intro ?_ ?_) <;> (repeat' with_reducible apply And.intro) <;> try exact sd)))
            refine XK.plain (hcellI t (by omega)) ok116 ?_ (hbT ())
            iterate 6 ((try (refine drvZ Try.func72 ?_; simp (maxSteps := 9999999) only [go_sem, hbits, htb])); (try ((with_reducible refine And.intro ?_ ?_) <;> (repeat' with_reducible apply And.intro) <;> try exact sd)))
            have hcut : cutS N.testBit vs.length (cutL N.testBit vs.length d) (.mk 2 t (.mk ik iv iks) (.mk vk vv vks) c b e) = some (.mk 2 t (.mk ik iv iks) (.mk vk vv vks) c b e) := by simp [cutS, hq]
            have hadd : addS N.testBit vs.length (cutL N.testBit vs.length d) (setN N.testBit vs.length d) Si (.mk 2 t (.mk ik iv iks) (.mk vk vv vks) c b e) = Si ||| (ov ||| oi) := by simp only [addS, hcut, Option.isSome_some, if_true, hov, hoi]; simp
            rw [hcut, Option.toList_some] at hci
            rw [hadd] at hsi2
            refine XK.plain ho1 ok117 ?_ (hbT ()) (fun _ => by kernel_rfl)
            iterate 2 ((try (refine drvZ Try.func72 ?_; simp (maxSteps := 9999999) only [go_sem])); (try ((with_reducible refine And.intro ?_ ?_) <;> (repeat' with_reducible apply And.intro) <;> try exact sd)))
            refine XK.plain ho2 ok117 ?_ (hbT ()) (fun _ => by kernel_rfl)
            iterate 5 ((try (refine drvZ Try.func72 ?_; simp (maxSteps := 9999999) only [go_sem, hel])); (try ((with_reducible refine And.intro ?_ ?_) <;> (repeat' with_reducible apply And.intro) <;> try exact sd)))
            refine again (i + 1) (fun j => if j = 67 then some 6592 else some j) [] _ hlt (by omega) ?_
            simp (maxSteps := 9999999) only [go_sem, TmOK, DM, DMs, CM, CMs, forall_eq, exists_eq_left, Mq, HpOK, LowOK, List.cons_append, List.nil_append, hci, hsi2, stC_snoc, List.length_append]
            simp
            exact CMs.kf (kf_app (stC_kf _) (by simp [kf]))
          | false =>
            rw [hpos, hq] at htb
            rw [← hpos] at htb
            simp only [Bool.false_eq_true, if_false] at htb
            refine drvL Try.func72 ?_
            simp (maxSteps := 9999999) only [go_sem, hx, hlt]
            iterate 6 ((try (refine drvZ Try.func72 ?_; simp (maxSteps := 9999999) only [go_sem, hbits, htb])); (try ((with_reducible refine And.intro ?_ ?_) <;> (repeat' with_reducible apply And.intro) <;> try exact sd)))
            refine XK.plain (hcellI t (by omega)) ok116 ?_ (hbT ())
            iterate 6 ((try (refine drvZ Try.func72 ?_; simp (maxSteps := 9999999) only [go_sem, hbits, htb])); (try ((with_reducible refine And.intro ?_ ?_) <;> (repeat' with_reducible apply And.intro) <;> try exact sd)))
            have hcut : cutS N.testBit vs.length (cutL N.testBit vs.length d) (.mk 2 t (.mk ik iv iks) (.mk vk vv vks) c b e) = none := by simp [cutS, hq]
            have hadd : addS N.testBit vs.length (cutL N.testBit vs.length d) (setN N.testBit vs.length d) Si (.mk 2 t (.mk ik iv iks) (.mk vk vv vks) c b e) = Si := by simp only [addS, hcut, Option.isSome_none, Bool.false_eq_true, if_false]; simp
            rw [hcut, Option.toList_none, List.append_nil] at hci
            rw [hadd] at hsi2
            refine again (i + 1) some [] _ hlt (by omega) ?_
            simp (maxSteps := 9999999) only [go_sem, TmOK, DM, DMs, CM, CMs, forall_eq, exists_eq_left, Mq, HpOK, LowOK, List.cons_append, List.nil_append, hci, hsi2]
            simp
            exact CMs.kf (stC_kf _)
        · have e5 : (k == 5) = false := by simp [hk5]
          have e1 : (k == 1) = false := by simp [hk1]
          have e2 : (k == 2) = false := by simp [hk2]
          have hlb : (cutL N.testBit vs.length d b).length ≤ 1000 := by
            cases d with
            | zero => simp [cutL]
            | succ d => simp only [cutL]; exact Nat.le_trans (List.length_filterMap_le _ _) (by have := lsize_subs d b; omega)
          have hle : (cutL N.testBit vs.length d e).length ≤ 1000 := by
            cases d with
            | zero => simp [cutL]
            | succ d => simp only [cutL]; exact Nat.le_trans (List.length_filterMap_le _ _) (by have := lsize_subs d e; omega)
          have hcS : cutS N.testBit vs.length (cutL N.testBit vs.length d) (.mk k t (.mk ik iv iks) (.mk vk vv vks) c b e) = if 0 < (cutL N.testBit vs.length d b).length + (cutL N.testBit vs.length d e).length then some (.mk k t (.mk ik iv iks) (.mk vk vv vks) c (cutL N.testBit vs.length d b) (cutL N.testBit vs.length d e)) else none := by simp [cutS, hk5, hk1, hk2]
          have hor3 := or_lt hsi (or_lt hsb hse)
          have hor4 := or_lt hor3 hor
          have hor5 := or_lt hsb hse
          refine drvL Try.func72 ?_
          simp (maxSteps := 9999999) only [go_sem, hx, hlt, e5, e1, e2, hk5, hk1, hk2]
          iterate 4 ((try (refine drvZ Try.func72 ?_; simp (maxSteps := 9999999) only [go_sem, e5, e1, e2, hk5, hk1, hk2])); (try ((with_reducible refine And.intro ?_ ?_) <;> (repeat' with_reducible apply And.intro) <;> try exact sd)))
          refine XK.plain ihb ok72 ?_ (hbT ())
          iterate 3 ((try (refine drvZ Try.func72 ?_; simp (maxSteps := 9999999) only [go_sem])); (try ((with_reducible refine And.intro ?_ ?_) <;> (repeat' with_reducible apply And.intro) <;> try exact sd)))
          refine XK.plain ihe ok72 ?_ (hbT ())
          by_cases hpos : 0 < (cutL N.testBit vs.length d b).length + (cutL N.testBit vs.length d e).length
          · have hp1 : ((0 : Int) < ((cutL N.testBit vs.length d b).length : Int) + ((cutL N.testBit vs.length d e).length : Int)) = True := eq_true (by omega)
            rw [if_pos hpos] at hcS
            iterate 6 ((try (refine drvZ Try.func72 ?_; simp (maxSteps := 9999999) only [go_sem, hp1])); (try ((with_reducible refine And.intro ?_ ?_) <;> (repeat' with_reducible apply And.intro) <;> try exact sd)))
            have hcut : cutS N.testBit vs.length (cutL N.testBit vs.length d) (.mk k t (.mk ik iv iks) (.mk vk vv vks) c b e) = some (.mk k t (.mk ik iv iks) (.mk vk vv vks) c (cutL N.testBit vs.length d b) (cutL N.testBit vs.length d e)) := by exact hcS
            have hadd : addS N.testBit vs.length (cutL N.testBit vs.length d) (setN N.testBit vs.length d) Si (.mk k t (.mk ik iv iks) (.mk vk vv vks) c b e) = (Si ||| (setN N.testBit vs.length d b ||| setN N.testBit vs.length d e)) ||| (ov ||| oi) := by simp only [addS, hcut, Option.isSome_some, if_true, hov, hoi]; simp [hk5, hk1, hk2]
            rw [hcut, Option.toList_some] at hci
            rw [hadd] at hsi2
            refine XK.plain ho1 ok117 ?_ (hbT ()) (fun _ => by kernel_rfl)
            iterate 2 ((try (refine drvZ Try.func72 ?_; simp (maxSteps := 9999999) only [go_sem])); (try ((with_reducible refine And.intro ?_ ?_) <;> (repeat' with_reducible apply And.intro) <;> try exact sd)))
            refine XK.plain ho2 ok117 ?_ (hbT ()) (fun _ => by kernel_rfl)
            iterate 5 ((try (refine drvZ Try.func72 ?_; simp (maxSteps := 9999999) only [go_sem, hel])); (try ((with_reducible refine And.intro ?_ ?_) <;> (repeat' with_reducible apply And.intro) <;> try exact sd)))
            refine again (i + 1) (fun j => if j = 67 then some 8512 else some j) [] _ hlt (by omega) ?_
            simp (maxSteps := 9999999) only [go_sem, TmOK, DM, DMs, CM, CMs, forall_eq, exists_eq_left, Mq, HpOK, LowOK, List.cons_append, List.nil_append, hci, hsi2, stC_snoc, List.length_append]
            simp
            exact CMs.kf (kf_app (stC_kf _) (by simp [kf]))
          · have hp1 : ((0 : Int) < ((cutL N.testBit vs.length d b).length : Int) + ((cutL N.testBit vs.length d e).length : Int)) = False := eq_false (by omega)
            rw [if_neg hpos] at hcS
            iterate 6 ((try (refine drvZ Try.func72 ?_; simp (maxSteps := 9999999) only [go_sem, hp1])); (try ((with_reducible refine And.intro ?_ ?_) <;> (repeat' with_reducible apply And.intro) <;> try exact sd)))
            have hcut : cutS N.testBit vs.length (cutL N.testBit vs.length d) (.mk k t (.mk ik iv iks) (.mk vk vv vks) c b e) = none := by exact hcS
            have hadd : addS N.testBit vs.length (cutL N.testBit vs.length d) (setN N.testBit vs.length d) Si (.mk k t (.mk ik iv iks) (.mk vk vv vks) c b e) = (Si ||| (setN N.testBit vs.length d b ||| setN N.testBit vs.length d e)) := by simp only [addS, hcut, Option.isSome_none, Bool.false_eq_true, if_false]; simp [hk5, hk1, hk2]
            rw [hcut, Option.toList_none, List.append_nil] at hci
            rw [hadd] at hsi2
            refine again (i + 1) some [] _ hlt (by omega) ?_
            simp (maxSteps := 9999999) only [go_sem, TmOK, DM, DMs, CM, CMs, forall_eq, exists_eq_left, Mq, HpOK, LowOK, List.cons_append, List.nil_append, hci, hsi2]
            simp
            exact CMs.kf (stC_kf _)
      · have hn2 : ¬ i < l.length := by omega
        obtain rfl : i = l.length := by omega
        refine drvL Try.func72 ?_
        simp (maxSteps := 9999999) only [go_sem, hn2, List.take_length]
        iterate 2 ((try (refine drvZ Try.func72 ?_; simp (maxSteps := 9999999) only [go_sem, hn2, List.take_length])); (try ((with_reducible refine And.intro ?_ ?_) <;> (repeat' with_reducible apply And.intro) <;> try exact sd)))
        generalize hCi : cutL N.testBit vs.length (d + 1) l = Ci at *
        refine RetOb.ofQ (fun j => none) [67] (.tup [.c (.isl 11 (St1.cellsL Ci)), DI .i64 (setN N.testBit vs.length (d + 1) l)]) [] ?_ (by rw [← hR]; exact ⟨rfl, rfl⟩) (by simp)
        have g1 : (St1.cellsL Ci).flatten = stC Ci := by rw [St1.cellsL_eq]; rfl
        have g2 : ∀ x ∈ St1.cellsL Ci, x.length = 11 := fun x hx => by rw [St1.cellsL_eq] at hx; obtain ⟨e, _, rfl⟩ := List.mem_map.1 hx; exact St1.cells_len e
        have g3 : ∀ x ∈ St1.cellsL Ci, ∀ c ∈ x, kf c = true := fun x hx => by rw [St1.cellsL_eq] at hx; obtain ⟨e, _, rfl⟩ := List.mem_map.1 hx; exact st_kf e
        simp only [enumL, hOf, DM, DMs, CM, CMs, HpOK, LowOK, upd, St1.cellsL_length, g1]
        first | (simp; exact ⟨g2, g3⟩) | (simp [g2]; exact g3) | exact ⟨g2, g3⟩
    · simp (maxSteps := 9999999) only [go_sem, TmOK, DM, DMs, CM, CMs, forall_eq, exists_eq_left, Mq, HpOK, LowOK]
      simp [cutL, setN, stC]
end Go.Proofs.Ytclgjiffpijgmaa.CtD

namespace Go.Proofs.Ytclgjiffpijgmaa.CtD
open Go Go.CT CtF CtR

/-! Slices, plain: the least closed set. -/
def subB (a : Nat) (q : Nat → Bool) : Prop := ∀ i, a.testBit i = true → q i = true
theorem subB_or {a b : Nat} {q : Nat → Bool} : subB (a ||| b) q ↔ subB a q ∧ subB b q := by
  unfold subB
  constructor
  · intro h
    exact ⟨fun i hi => h i (by rw [Nat.testBit_or, hi, Bool.true_or]), fun i hi => h i (by rw [Nat.testBit_or, hi, Bool.or_true])⟩
  · rintro ⟨h1, h2⟩ i hi
    rw [Nat.testBit_or, Bool.or_eq_true] at hi
    exact hi.elim (h1 i) (h2 i)
theorem subB_zero (q : Nat → Bool) : subB 0 q := fun i h => by simp at h
def leB (q q' : Nat → Bool) : Prop := ∀ i, q i = true → q' i = true
/-- With more cells, a slice keeps more, and reads more. -/
theorem cut_mono (nv : Nat) {q q' : Nat → Bool} (h : leB q q') : ∀ (d : Nat) (l : List St1), (0 < (cutL q nv d l).length → 0 < (cutL q' nv d l).length) ∧ ∀ r, subB (setN q' nv d l) r → subB (setN q nv d l) r := by
  intro d
  induction d with
  | zero => intro l; exact ⟨fun h => h, fun r h => h⟩
  | succ d ih =>
    have hS : ∀ s, (cutS q nv (cutL q nv d) s).isSome = true → (cutS q' nv (cutL q' nv d) s).isSome = true := fun s => by
      obtain ⟨k, t, ix, v, c, b, e⟩ := s
      simp only [cutS]
      by_cases h5 : k = 5
      · simp [h5]
      · by_cases h1 : k = 1
        · simp only [h5, h1, if_false, if_true]
          cases hq : q t.toNat with
          | false => simp
          | true => simp [h _ hq]
        · by_cases h2 : k = 2
          · simp only [h5, h1, h2, if_false, if_true]
            cases hq : q (nv + t.toNat) with
            | false => simp
            | true => simp [h _ hq]
          · simp only [h5, h1, h2, if_false]
            intro hh
            have : 0 < (cutL q nv d b).length + (cutL q nv d e).length := by
              by_cases h0 : 0 < (cutL q nv d b).length + (cutL q nv d e).length
              · exact h0
              · rw [if_neg h0] at hh; simp at hh
            have h3 := (ih b).1
            have h4 := (ih e).1
            rw [if_pos (by omega)]; rfl
    have hA : ∀ s r a a', (subB a' r → subB a r) → subB (addS q' nv (cutL q' nv d) (setN q' nv d) a' s) r → subB (addS q nv (cutL q nv d) (setN q nv d) a s) r := fun s r a a' haa => by
      have hss := hS s
      obtain ⟨k, t, ix, v, c, b, e⟩ := s
      simp only [addS]
      have hb := (ih b).2 r
      have he := (ih e).2 r
      have h1 : subB (if k = 5 ∨ k = 1 ∨ k = 2 then a' else a' ||| (setN q' nv d b ||| setN q' nv d e)) r → subB (if k = 5 ∨ k = 1 ∨ k = 2 then a else a ||| (setN q nv d b ||| setN q nv d e)) r := by
        split
        · exact haa
        · intro hh
          rw [subB_or, subB_or] at hh ⊢
          exact ⟨haa hh.1, hb hh.2.1, he hh.2.2⟩
      intro hh
      cases hc : (cutS q nv (cutL q nv d) (.mk k t ix v c b e)).isSome with
      | true =>
        rw [hss hc] at hh
        simp only [if_true] at hh ⊢
        rw [subB_or] at hh ⊢
        exact ⟨h1 hh.1, hh.2⟩
      | false =>
        simp only [Bool.false_eq_true, if_false]
        apply h1
        split at hh
        · exact (subB_or.1 hh).1
        · exact hh
    intro l
    refine ⟨fun hl => ?_, fun r => ?_⟩
    · simp only [cutL] at hl ⊢
      obtain ⟨x, hx⟩ := List.exists_mem_of_length_pos hl
      obtain ⟨s, hs, he⟩ := List.mem_filterMap.1 hx
      have := hS s (by rw [he]; rfl)
      obtain ⟨y, hy⟩ := Option.isSome_iff_exists.1 this
      exact List.length_pos_of_mem (List.mem_filterMap.2 ⟨s, hs, hy⟩)
    · simp only [setN]
      have gen : ∀ (l : List St1) (a a' : Nat), (subB a' r → subB a r) → subB (l.foldl (addS q' nv (cutL q' nv d) (setN q' nv d)) a') r → subB (l.foldl (addS q nv (cutL q nv d) (setN q nv d)) a) r := fun l => by
        induction l with
        | nil => intro a a' h; exact h
        | cons s t iht => intro a a' h; exact iht _ _ (hA s r a a' h)
      exact gen l 0 0 (fun h => h)

structure Least (p : Pg) (ws : List Bool) (q : Nat → Bool) : Prop where
  want : ∀ i, ws.getD i false = true → q i = true
  closed : subB (setN q p.vars.length 5 p.body) q
  least : ∀ q' : Nat → Bool, (∀ i, ws.getD i false = true → q' i = true) → subB (setN q' p.vars.length 5 p.body) q' → leB q q'
theorem Least.eq {p : Pg} {ws : List Bool} {q q' : Nat → Bool} (h : Least p ws q) (h' : Least p ws q') : q = q' := funext fun i => by
  have h1 := h.least q' h'.want h'.closed i
  have h2 := h'.least q h.want h.closed i
  cases ha : q i <;> cases hb : q' i <;> simp_all

/-- The wanted cells as bits. -/
def accN (ws : List Bool) : Nat → Nat
  | 0 => 0
  | i + 1 => accN ws i ||| (if ws.getD i false then 1 else 0) * 2 ^ i
theorem accN_bit (ws : List Bool) : ∀ (i j : Nat), (accN ws i).testBit j = (decide (j < i) && ws.getD j false)
  | 0, j => by simp [accN]
  | i + 1, j => by
    rw [accN, Nat.testBit_or, accN_bit ws i j]
    have hb : ((if ws.getD i false then 1 else 0) * 2 ^ i).testBit j = (ws.getD i false && decide (i = j)) := by
      cases hw : ws.getD i false with
      | true => simp [Nat.testBit_two_pow]
      | false => simp
    rw [hb]
    by_cases h1 : j < i
    · have : ¬ i = j := by omega
      simp [h1, this, show j < i + 1 by omega]
    · by_cases h2 : i = j
      · subst h2; simp
      · simp [h1, h2, show ¬ j < i + 1 by omega]
theorem accN_lt (ws : List Bool) : ∀ i, i ≤ 14 → accN ws i < 16384
  | 0, _ => by simp [accN]
  | i + 1, h => by
    rw [accN]
    refine or_lt (accN_lt ws i (by omega)) ?_
    have := pow14 (show i < 14 by omega)
    split <;> omega
end Go.Proofs.Ytclgjiffpijgmaa.CtD
