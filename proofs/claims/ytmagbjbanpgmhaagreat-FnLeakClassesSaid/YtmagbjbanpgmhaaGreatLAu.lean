/- Contracts of functions of the program, one behind the other, as plain data: what each call returns and which blocks it leaves. -/
import Derived.Test.YtmagbjbanpgmhaaGreatLFacts
import Derived.Test.YtmagbjbanpgmhaaGreatLAj
import Derived.Test.YtmagbjbanpgmhaaGreatLAk
import Derived.Test.YtmagbjbanpgmhaaGreatLAl
import Derived.Test.YtmagbjbanpgmhaaGreatLAn
import Derived.Test.YtmagbjbanpgmhaaGreatLAr
import Derived.Test.YtmagbjbanpgmhaaGreatLAs
import Derived.Test.YtmagbjbanpgmhaaGreatLAt
import Derived.Test.YtmagbjbanpgmhaaGreatLAo
import Derived.Test.YtmagbjbanpgmhaaGreatLAm
set_option linter.unusedVariables false
set_option linter.unusedSimpArgs false
set_option maxHeartbeats 16000000
set_option maxRecDepth 100000
namespace Go.Proofs.YtmagbjbanpgmhaaGreat.CtD
open Go Go.CT CtF CtR

/-- What is asked of a drawn program that may be invalid. -/
structure SmP (p : Pg) : Prop where
  nv : p.vars.length ≤ 13
  na : p.arrays.length ≤ 2
  nb : p.body.length ≤ 4
  sz : ∀ k, lsize k p.body ≤ 1000
  sm : ∀ s ∈ p.body, SmS 2 s
/-- A statement without its numbers. -/
def bare : St1 → List Ex × List Ex × List St1 × List St1
  | .mk _ _ (.mk _ _ ki) (.mk _ _ kv) _ b e => (ki, kv, b, e)
theorem bare_size (k : Nat) {s s' : St1} (h : bare s = bare s') : tsize k s = tsize k s' := by
  obtain ⟨k1, t1, ⟨a1, b1, c1⟩, ⟨d1, e1, f1⟩, g1, h1, i1⟩ := s
  obtain ⟨k2, t2, ⟨a2, b2, c2⟩, ⟨d2, e2, f2⟩, g2, h2, i2⟩ := s'
  simp only [bare, Prod.mk.injEq] at h
  obtain ⟨rfl, rfl, rfl, rfl⟩ := h
  cases k <;> rfl
theorem SmE.any {k v k' v' : Int} {ks : List Ex} (h : SmE (.mk k v ks)) : SmE (.mk k' v' ks) := by
  cases h with | mk _ _ _ h h2 => exact .mk _ _ _ h h2
theorem bare_sm (d : Nat) {s s' : St1} (h : bare s = bare s') (hs : SmS d s) : SmS d s' := by
  obtain ⟨k1, t1, ⟨a1, b1, c1⟩, ⟨d1, e1, f1⟩, g1, h1, i1⟩ := s
  obtain ⟨k2, t2, ⟨a2, b2, c2⟩, ⟨d2, e2, f2⟩, g2, h2, i2⟩ := s'
  simp only [bare, Prod.mk.injEq] at h
  obtain ⟨rfl, rfl, rfl, rfl⟩ := h
  cases d with
  | zero => simp only [SmS] at hs ⊢; exact ⟨hs.1.any, hs.2.1.any, hs.2.2⟩
  | succ d => simp only [SmS] at hs ⊢; exact ⟨hs.1.any, hs.2.1.any, hs.2.2⟩
theorem bare_list (k : Nat) : ∀ {l l' : List St1}, l'.map bare = l.map bare → lsize k l' = lsize k l
  | [], [], _ => rfl
  | [], _ :: _, h => by simp at h
  | _ :: _, [], h => by simp at h
  | a :: r, b :: q, h => by
    simp only [List.map_cons, List.cons.injEq] at h
    have := bare_list k h.2
    simp only [lsize, List.map_cons, List.sum_cons] at this ⊢
    rw [this, bare_size k h.1]
theorem bare_sml {d : Nat} {l l' : List St1} (h : l'.map bare = l.map bare) (hs : ∀ s ∈ l, SmS d s) : ∀ s ∈ l', SmS d s := fun s hm => by
  have h1 : bare s ∈ l.map bare := by rw [← h]; exact List.mem_map.2 ⟨s, hm, rfl⟩
  obtain ⟨s0, h2, h3⟩ := List.mem_map.1 h1
  exact bare_sm d h3 (hs s0 h2)
def muR (bs : List Int) (n : Nat) (r : D) (h : List (Option (List C))) : Prop := ∃ p : Pg, r = .agg p.cells ∧ SmP p ∧ rdL bs n 5 h
theorem RetOb.prK {R : D → List (Option (List C)) → Prop} {p : Pg} {hp : Hp} {k0 k1 k2 nv na nb : Nat} {rc : List C} (hR : R (.agg p.cells) [some rc]) (hrc : ∀ c ∈ rc, kf c = true)
    (hz : hp 0 = some (some rc)) (h0 : hp k0 = some (some (p.vars.map I64))) (h1 : hp k1 = some (some (p.arrays.map I64))) (h2 : hp k2 = some (some (stC p.body))) (hv : nv = p.vars.length) (ha : na = p.arrays.length) (hb : nb = p.body.length)
    (hne : 0 ≠ k0 ∧ 0 ≠ k1 ∧ 0 ≠ k2) : RetOb 1 R (.agg [.msl k0 1 0 nv, .msl k1 1 0 na, .msl k2 11 0 nb]) hp := by
  subst hv ha hb
  obtain ⟨vs, ar, bd⟩ := p
  obtain ⟨n0, n1, n2⟩ := hne
  refine RetOb.ofQ (fun j => if j = 0 then some 0 else none) [k0, k1, k2] _ [some rc] ?_ hR (by simp)
  have e4 : ∀ {hT hS : Hp} {r : Nat → Option Nat} {fz : List Nat}, CMs hT r hS fz rc rc = True := eq_true (CMs.kf hrc)
  have g1 : (St1.cellsL bd).flatten = stC bd := by rw [St1.cellsL_eq]; rfl
  have g2 : ∀ x ∈ St1.cellsL bd, x.length = 11 := fun x hx => by rw [St1.cellsL_eq] at hx; obtain ⟨e, _, rfl⟩ := List.mem_map.1 hx; exact St1.cells_len e
  have g3 : ∀ x ∈ St1.cellsL bd, ∀ c ∈ x, kf c = true := fun x hx => by rw [St1.cellsL_eq] at hx; obtain ⟨e, _, rfl⟩ := List.mem_map.1 hx; exact st_kf e
  simp [enumL, DM, DMs, CM, CMs, HpOK, LowOK, hOf, upd, Pg.cells, isI, flat_I, kf, e4, hz, h0, h1, h2, g1, St1.cellsL_length, n0, n1, n2]
  exact ⟨g2, g3⟩
theorem DrP.smP {p : Pg} (h : DrP p) : SmP p := ⟨by have := h.nv; omega, h.na, h.nb, fun k => by
  have h1 := lsize_sm 2 k p.body h.sm
  have h2 : p.body.length * 9 ^ 2 ≤ 4 * 9 ^ 2 := Nat.mul_le_mul_right _ h.nb
  omega, h.sm⟩
theorem stC_cons (s : St1) (l : List St1) : stC (s :: l) = s.cells ++ stC l := by simp [stC]
theorem stC_nil : stC [] = [] := rfl

theorem l2Mutate (bs : List Int) (n : Nat) (p : Pg) (hb : Fits .u8 bs) (hl : bs.length ≤ 2000) (hn : n ≤ 274877906944) (hp : DrP p) : DC Tryz.prog 48 [.c (.ptr 0 0), .agg p.cells] [some (rdr bs n)] (muR bs n) := by
  have hmx := mx_eq
  have hsm := hp.smP
  have hcp := l2Copy p 2 (by have := hp.nv; omega) (by have := hp.na; omega) (by have := hp.nb; omega) hp.sm
  have hnum := fun n xs h1 h2 h3 => numO bs n xs hb hl h1 h2 h3
  generalize hR : muR bs n = R
  obtain ⟨vs, ar, bd⟩ := p
  have hv5 : vs.length ≤ 5 := hp.nv
  have ha2 : ar.length ≤ 2 := hp.na
  have hb4 : bd.length ≤ 4 := hp.nb
  have hfin : ∀ (k0 nv na nb : Nat) (n' : Nat) (va' : List Int) (bd' : List St1) (hp : Hp), va'.length ≤ 13 → bd'.length ≤ 4 → bd'.map bare = bd.map bare → n ≤ n' → n' ≤ n + 5 → hp 0 = some (some (rdr bs n')) → hp k0 = some (some (va'.map I64)) → hp 194 = some (some (ar.map I64)) → hp 195 = some (some (stC bd')) → nv = va'.length → na = ar.length → nb = bd'.length →
      0 ≠ k0 → RetOb 1 R (.agg [.msl k0 1 0 nv, .msl 194 1 0 na, .msl 195 11 0 nb]) hp := fun k0 nv na nb n' va' bd' hp g1 g1b g1c g2 g3 g4 g5 g6 g7 g8 g9 g10 e4 =>
    RetOb.prK (p := ⟨va', ar, bd'⟩) (by rw [← hR]; exact ⟨⟨va', ar, bd'⟩, rfl, ⟨g1, ha2, g1b, fun k => by rw [bare_list k g1c]; exact hsm.sz k, bare_sml g1c hsm.sm⟩, n', g2, g3, rfl⟩) (rdr_kf bs n') g4 g5 g6 g7 g8 g9 g10 ⟨e4, by decide, by decide⟩
  refine dcZ Tryz.func48 ?_
  simp (maxSteps := 9999999) only [go_sem, rdr]
  ((try (refine drvZ Tryz.func48 ?_; simp (maxSteps := 9999999) only [go_sem, rdr])); (try ((with_reducible refine And.intro ?_ ?_) <;> (repeat' with_reducible apply And.intro) <;> try exact sd)))
  refine XK.callG [] hcp ok92 (fun i' x h => by simp at h) (hbT ()) (fun d h' ⟨_, e⟩ => by subst e; simp) ?_
  rintro _ _ ⟨rfl, rfl⟩ _
  iterate 3 ((try (refine drvZ Tryz.func48 ?_; simp (maxSteps := 9999999) only [go_sem, renCs_I, renCs_stC, rdr])); (try ((with_reducible refine And.intro ?_ ?_) <;> (repeat' with_reducible apply And.intro) <;> try exact sd)))
  refine XK.callG [0] (pick bs n 60 hb hl (by omega) (by simp only [InK]; omega)) ok47 (hhp_one rfl) (hbT ()) (fun d h' ⟨v, _, _, e⟩ => by subst e; simp) ?_
  rintro _ _ ⟨v, rfl, hpv, rfl⟩ _
  have hpv : v = 0 ∨ v = 1 ∨ v = 2 ∨ v = 3 ∨ v = 4 ∨ v = 5 ∨ v = 6 ∨ (v ≠ 0 ∧ v ≠ 1 ∧ v ≠ 2 ∧ v ≠ 3 ∧ v ≠ 4 ∧ v ≠ 5 ∧ v ≠ 6) := by omega
  rcases hpv with rfl | rfl | rfl | rfl | rfl | rfl | rfl | ⟨h0, h1, h2, h3, h4, h5, h6⟩
  · cases vs with
    | nil =>
      have hz : ((0 : Int) < 0) = False := eq_false (by omega)
      iterate 5 ((try (refine drvZ Tryz.func48 ?_; simp (maxSteps := 9999999) only [go_sem, rdr, Int.natCast_zero, hz])); (try ((with_reducible refine And.intro ?_ ?_) <;> (repeat' with_reducible apply And.intro) <;> try exact sd)))
      exact hfin 193 _ _ _ (n + 1) [] bd _ (by first | omega | (simp; omega) | simp) (by first | omega | (simp; omega) | simp) rfl (by omega) (by omega) rfl rfl rfl rfl rfl rfl rfl (by decide)
    | cons x r =>
      have hv5 : r.length + 1 ≤ 5 := hv5
      have hz : ((0 : Int) < (r.length : Int) + 1) = True := eq_true (by omega)
      iterate 5 ((try (refine drvZ Tryz.func48 ?_; simp (maxSteps := 9999999) only [go_sem, rdr, hz])); (try ((with_reducible refine And.intro ?_ ?_) <;> (repeat' with_reducible apply And.intro) <;> try exact sd)))
      refine XK.callG [0] (l1Draw bs (n + 1) hb hl (by omega)) ok93 (hhp_one rfl) (hbT ()) (fun d h' ⟨_, _, _, _, _, _, e⟩ => by subst e; simp) ?_ (fun _ => ⟨by kernel_rfl, _, _, ⟨0, rfl, by simp [InK], n + 1, by omega, by omega, rfl⟩, by simp⟩)
      rintro _ _ ⟨w, rfl, hw, n', hn1, hn2, rfl⟩ _
      iterate 5 ((try (refine drvZ Tryz.func48 ?_; simp (maxSteps := 9999999) only [go_sem, rdr, hz])); (try ((with_reducible refine And.intro ?_ ?_) <;> (repeat' with_reducible apply And.intro) <;> try exact sd)))
      exact hfin 193 _ _ _ n' (w :: r) bd _ (by first | omega | (simp; omega) | simp) (by omega) rfl (by omega) (by omega) rfl rfl rfl rfl rfl rfl rfl (by decide)
  · iterate 5 ((try (refine drvZ Tryz.func48 ?_; simp (maxSteps := 9999999) only [go_sem, rdr])); (try ((with_reducible refine And.intro ?_ ?_) <;> (repeat' with_reducible apply And.intro) <;> try exact sd)))
    refine Go.loopQ (fun l : List Int => [(4, .c (.ptr 65 0)), (5, .c (.ptr 257 0))])
      (fun l => [(0, some (rdr bs ((n + 1 : Nat) : Int))), (65, some [.v (.slice none 0 0), .v (.slice none 0 0), .v (.slice none 0 0)]), (257, some [.msl 67 1 0 l.length, .msl 194 1 0 ar.length, .msl 195 11 0 bd.length]), (67, some (l.map I64)), (194, some (ar.map I64)), (195, some (stC bd))])
      4096 (fun l => l.length ≤ 13) (fun l => 13 - l.length) ?_ vs (fun j => if j = 67 then some 193 else some j) [] _ (by omega) ?_
    · intro l hi again
      rcases Nat.lt_or_ge l.length 13 with hlt | hge
      · have hz : ((l.length : Int) ≤ 12) = True := eq_true (by omega)
        refine drvL Tryz.func48 ?_
        simp (maxSteps := 9999999) only [go_sem, rdr, hz]
        iterate 4 ((try (refine drvZ Tryz.func48 ?_; simp (maxSteps := 9999999) only [go_sem, rdr, hz])); (try ((with_reducible refine And.intro ?_ ?_) <;> (repeat' with_reducible apply And.intro) <;> try exact sd)))
        refine again (l ++ [1]) (fun j => if j = 67 then some 4544 else some j) [] _ (by simp; omega) (by simp; omega) ?_
        simp (maxSteps := 9999999) only [go_sem, TmOK, DM, DMs, CM, CMs, forall_eq, exists_eq_left, Mq, HpOK, LowOK, rdr, i_snoc]
        simp
        exact ⟨CMs.kf (kf_app (kf_I _) (by simp [kf])), CMs.kf (kf_I _), CMs.kf (stC_kf _)⟩
      · have hz : ((l.length : Int) ≤ 12) = False := eq_false (by omega)
        refine drvL Tryz.func48 ?_
        simp (maxSteps := 9999999) only [go_sem, rdr, hz]
        iterate 4 ((try (refine drvZ Tryz.func48 ?_; simp (maxSteps := 9999999) only [go_sem, rdr, hz])); (try ((with_reducible refine And.intro ?_ ?_) <;> (repeat' with_reducible apply And.intro) <;> try exact sd)))
        exact hfin 67 _ _ _ (n + 1) l bd _ (by omega) (by omega) rfl (by omega) (by omega) rfl rfl rfl rfl rfl rfl rfl (by decide)
    · simp (maxSteps := 9999999) only [go_sem, TmOK, DM, DMs, CM, CMs, forall_eq, exists_eq_left, Mq, HpOK, LowOK, rdr]
      simp
      exact ⟨CMs.kf (kf_I _), CMs.kf (kf_I _), CMs.kf (stC_kf _)⟩
  · cases bd with
    | nil =>
      have hz : ((0 : Int) < 0) = False := eq_false (by omega)
      iterate 9 ((try (refine drvZ Tryz.func48 ?_; simp (maxSteps := 9999999) only [go_sem, rdr, Int.natCast_zero, hz])); (try ((with_reducible refine And.intro ?_ ?_) <;> (repeat' with_reducible apply And.intro) <;> try exact sd)))
      exact hfin 193 _ _ _ (n + 1) vs [] _ (by first | omega | (simp; omega) | simp) (by first | omega | (simp; omega) | simp) rfl (by omega) (by omega) rfl rfl rfl rfl rfl rfl rfl (by decide)
    | cons s r =>
      obtain ⟨k, t, ⟨ik, iv, iks⟩, ⟨vk, vv, vks⟩, c, b, e⟩ := s
      have hb4 : r.length + 1 ≤ 4 := hb4
      have hz : ((0 : Int) < (r.length : Int) + 1) = True := eq_true (by omega)
      iterate 9 ((try (refine drvZ Tryz.func48 ?_; simp (maxSteps := 9999999) only [go_sem, rdr, hz, stC_cons])); (try ((with_reducible refine And.intro ?_ ?_) <;> (repeat' with_reducible apply And.intro) <;> try exact sd)))
      refine XK.callG [0, 1473] (hnum (n + 1) [0, 6, 1, 5, 2] (by omega) (by decide) (by decide)) ok69 (hhp2 rfl rfl) (hbT ()) (fun d h' ⟨_, _, _, e⟩ => by subst e; simp) ?_ (fun _ => ⟨by kernel_rfl, _, _, ⟨1, rfl, by simp, rfl⟩, by simp⟩)
      rintro _ _ ⟨w, rfl, hw, rfl⟩ _
      clear hw
      iterate 5 ((try (refine drvZ Tryz.func48 ?_; simp (maxSteps := 9999999) only [go_sem, rdr, hz, stC_cons])); (try ((with_reducible refine And.intro ?_ ?_) <;> (repeat' with_reducible apply And.intro) <;> try exact sd)))
      exact hfin 193 _ _ _ (n + 2) vs ((.mk w t (.mk ik iv iks) (.mk vk vv vks) c b e) :: r) _ (by first | omega | (simp; omega) | simp) (by first | omega | (simp; omega) | simp) rfl (by omega) (by omega) rfl rfl rfl rfl rfl rfl rfl (by decide)
  · match bd, hb4 with
    | [], hb4 =>
      have hz : ((0 : Int) < 0) = False := eq_false (by omega)
      iterate 9 ((try (refine drvZ Tryz.func48 ?_; simp (maxSteps := 9999999) only [go_sem, rdr, Int.natCast_zero, hz])); (try ((with_reducible refine And.intro ?_ ?_) <;> (repeat' with_reducible apply And.intro) <;> try exact sd)))
      exact hfin 193 _ _ _ (n + 1) vs [] _ (by first | omega | (simp; omega) | simp) (by first | omega | (simp; omega) | simp) rfl (by omega) (by omega) rfl rfl rfl rfl rfl rfl rfl (by decide)
    | [a], hb4 =>
      obtain ⟨k, t, ⟨ik, iv, iks⟩, ⟨vk, vv, vks⟩, c0, b0, e0⟩ := a
      iterate 9 ((try (refine drvZ Tryz.func48 ?_; simp (maxSteps := 9999999) only [go_sem, rdr, stC_cons, stC_nil, Int.reduceSub, Int.natCast_zero])); (try ((with_reducible refine And.intro ?_ ?_) <;> (repeat' with_reducible apply And.intro) <;> try exact sd)))
      refine XK.callG [0, 1729] (hnum (n + 1) [-1, 12, 1, 9223372036854775807] (by omega) (by decide) (by decide)) ok69 (hhp2 rfl rfl) (hbT ()) (fun d h' ⟨_, _, _, e⟩ => by subst e; simp) ?_ (fun _ => ⟨by kernel_rfl, _, _, ⟨1, rfl, by simp, rfl⟩, by simp⟩)
      rintro _ _ ⟨w, rfl, hw, rfl⟩ _
      clear hw
      iterate 5 ((try (refine drvZ Tryz.func48 ?_; simp (maxSteps := 9999999) only [go_sem, rdr, stC_cons, stC_nil, Int.reduceSub, Int.natCast_zero])); (try ((with_reducible refine And.intro ?_ ?_) <;> (repeat' with_reducible apply And.intro) <;> try exact sd)))
      exact hfin 193 _ _ _ (n + 2) vs [(.mk k w (.mk ik iv iks) (.mk vk vv vks) c0 b0 e0)] _ (by first | omega | (simp; omega) | simp) (by first | omega | (simp; omega) | simp) rfl (by omega) (by omega) rfl rfl rfl rfl rfl rfl rfl (by decide)
    | [a, b], hb4 =>
      obtain ⟨k, t, ⟨ik, iv, iks⟩, ⟨vk, vv, vks⟩, c0, b0, e0⟩ := b
      obtain ⟨ka, ta, ⟨ika, iva, iksa⟩, ⟨vka, vva, vksa⟩, ca, ba, ea⟩ := a
      iterate 9 ((try (refine drvZ Tryz.func48 ?_; simp (maxSteps := 9999999) only [go_sem, rdr, stC_cons, stC_nil, Int.reduceSub, Int.natCast_zero])); (try ((with_reducible refine And.intro ?_ ?_) <;> (repeat' with_reducible apply And.intro) <;> try exact sd)))
      refine XK.callG [0, 1729] (hnum (n + 1) [-1, 12, 1, 9223372036854775807] (by omega) (by decide) (by decide)) ok69 (hhp2 rfl rfl) (hbT ()) (fun d h' ⟨_, _, _, e⟩ => by subst e; simp) ?_ (fun _ => ⟨by kernel_rfl, _, _, ⟨1, rfl, by simp, rfl⟩, by simp⟩)
      rintro _ _ ⟨w, rfl, hw, rfl⟩ _
      clear hw
      iterate 5 ((try (refine drvZ Tryz.func48 ?_; simp (maxSteps := 9999999) only [go_sem, rdr, stC_cons, stC_nil, Int.reduceSub, Int.natCast_zero])); (try ((with_reducible refine And.intro ?_ ?_) <;> (repeat' with_reducible apply And.intro) <;> try exact sd)))
      exact hfin 193 _ _ _ (n + 2) vs [(.mk ka ta (.mk ika iva iksa) (.mk vka vva vksa) ca ba ea), (.mk k w (.mk ik iv iks) (.mk vk vv vks) c0 b0 e0)] _ (by first | omega | (simp; omega) | simp) (by first | omega | (simp; omega) | simp) rfl (by omega) (by omega) rfl rfl rfl rfl rfl rfl rfl (by decide)
    | [a, b, c], hb4 =>
      obtain ⟨k, t, ⟨ik, iv, iks⟩, ⟨vk, vv, vks⟩, c0, b0, e0⟩ := c
      obtain ⟨ka, ta, ⟨ika, iva, iksa⟩, ⟨vka, vva, vksa⟩, ca, ba, ea⟩ := a
      obtain ⟨kb, tb, ⟨ikb, ivb, iksb⟩, ⟨vkb, vvb, vksb⟩, cb, bb, eb⟩ := b
      iterate 9 ((try (refine drvZ Tryz.func48 ?_; simp (maxSteps := 9999999) only [go_sem, rdr, stC_cons, stC_nil, Int.reduceSub, Int.natCast_zero])); (try ((with_reducible refine And.intro ?_ ?_) <;> (repeat' with_reducible apply And.intro) <;> try exact sd)))
      refine XK.callG [0, 1729] (hnum (n + 1) [-1, 12, 1, 9223372036854775807] (by omega) (by decide) (by decide)) ok69 (hhp2 rfl rfl) (hbT ()) (fun d h' ⟨_, _, _, e⟩ => by subst e; simp) ?_ (fun _ => ⟨by kernel_rfl, _, _, ⟨1, rfl, by simp, rfl⟩, by simp⟩)
      rintro _ _ ⟨w, rfl, hw, rfl⟩ _
      clear hw
      iterate 5 ((try (refine drvZ Tryz.func48 ?_; simp (maxSteps := 9999999) only [go_sem, rdr, stC_cons, stC_nil, Int.reduceSub, Int.natCast_zero])); (try ((with_reducible refine And.intro ?_ ?_) <;> (repeat' with_reducible apply And.intro) <;> try exact sd)))
      exact hfin 193 _ _ _ (n + 2) vs [(.mk ka ta (.mk ika iva iksa) (.mk vka vva vksa) ca ba ea), (.mk kb tb (.mk ikb ivb iksb) (.mk vkb vvb vksb) cb bb eb), (.mk k w (.mk ik iv iks) (.mk vk vv vks) c0 b0 e0)] _ (by first | omega | (simp; omega) | simp) (by first | omega | (simp; omega) | simp) rfl (by omega) (by omega) rfl rfl rfl rfl rfl rfl rfl (by decide)
    | [a, b, c, d], hb4 =>
      obtain ⟨k, t, ⟨ik, iv, iks⟩, ⟨vk, vv, vks⟩, c0, b0, e0⟩ := d
      obtain ⟨ka, ta, ⟨ika, iva, iksa⟩, ⟨vka, vva, vksa⟩, ca, ba, ea⟩ := a
      obtain ⟨kb, tb, ⟨ikb, ivb, iksb⟩, ⟨vkb, vvb, vksb⟩, cb, bb, eb⟩ := b
      obtain ⟨kc, tc, ⟨ikc, ivc, iksc⟩, ⟨vkc, vvc, vksc⟩, cc, bc, ec⟩ := c
      iterate 9 ((try (refine drvZ Tryz.func48 ?_; simp (maxSteps := 9999999) only [go_sem, rdr, stC_cons, stC_nil, Int.reduceSub, Int.natCast_zero])); (try ((with_reducible refine And.intro ?_ ?_) <;> (repeat' with_reducible apply And.intro) <;> try exact sd)))
      refine XK.callG [0, 1729] (hnum (n + 1) [-1, 12, 1, 9223372036854775807] (by omega) (by decide) (by decide)) ok69 (hhp2 rfl rfl) (hbT ()) (fun d h' ⟨_, _, _, e⟩ => by subst e; simp) ?_ (fun _ => ⟨by kernel_rfl, _, _, ⟨1, rfl, by simp, rfl⟩, by simp⟩)
      rintro _ _ ⟨w, rfl, hw, rfl⟩ _
      clear hw
      iterate 5 ((try (refine drvZ Tryz.func48 ?_; simp (maxSteps := 9999999) only [go_sem, rdr, stC_cons, stC_nil, Int.reduceSub, Int.natCast_zero])); (try ((with_reducible refine And.intro ?_ ?_) <;> (repeat' with_reducible apply And.intro) <;> try exact sd)))
      exact hfin 193 _ _ _ (n + 2) vs [(.mk ka ta (.mk ika iva iksa) (.mk vka vva vksa) ca ba ea), (.mk kb tb (.mk ikb ivb iksb) (.mk vkb vvb vksb) cb bb eb), (.mk kc tc (.mk ikc ivc iksc) (.mk vkc vvc vksc) cc bc ec), (.mk k w (.mk ik iv iks) (.mk vk vv vks) c0 b0 e0)] _ (by first | omega | (simp; omega) | simp) (by first | omega | (simp; omega) | simp) rfl (by omega) (by omega) rfl rfl rfl rfl rfl rfl rfl (by decide)
  · cases bd with
    | nil =>
      have hz : ((0 : Int) < 0) = False := eq_false (by omega)
      iterate 9 ((try (refine drvZ Tryz.func48 ?_; simp (maxSteps := 9999999) only [go_sem, rdr, Int.natCast_zero, hz])); (try ((with_reducible refine And.intro ?_ ?_) <;> (repeat' with_reducible apply And.intro) <;> try exact sd)))
      exact hfin 193 _ _ _ (n + 1) vs [] _ (by first | omega | (simp; omega) | simp) (by first | omega | (simp; omega) | simp) rfl (by omega) (by omega) rfl rfl rfl rfl rfl rfl rfl (by decide)
    | cons s r =>
      obtain ⟨k, t, ⟨ik, iv, iks⟩, ⟨vk, vv, vks⟩, c, b, e⟩ := s
      have hb4 : r.length + 1 ≤ 4 := hb4
      have hz : ((0 : Int) < (r.length : Int) + 1) = True := eq_true (by omega)
      iterate 9 ((try (refine drvZ Tryz.func48 ?_; simp (maxSteps := 9999999) only [go_sem, rdr, hz, stC_cons])); (try ((with_reducible refine And.intro ?_ ?_) <;> (repeat' with_reducible apply And.intro) <;> try exact sd)))
      refine XK.callG [0, 1729] (hnum (n + 1) [-1, 256, 12, 1] (by omega) (by decide) (by decide)) ok69 (hhp2 rfl rfl) (hbT ()) (fun d h' ⟨_, _, _, e⟩ => by subst e; simp) ?_ (fun _ => ⟨by kernel_rfl, _, _, ⟨1, rfl, by simp, rfl⟩, by simp⟩)
      rintro _ _ ⟨w, rfl, hw, rfl⟩ _
      clear hw
      iterate 5 ((try (refine drvZ Tryz.func48 ?_; simp (maxSteps := 9999999) only [go_sem, rdr, hz, stC_cons])); (try ((with_reducible refine And.intro ?_ ?_) <;> (repeat' with_reducible apply And.intro) <;> try exact sd)))
      exact hfin 193 _ _ _ (n + 2) vs ((.mk k t (.mk ik iv iks) (.mk vk w vks) c b e) :: r) _ (by first | omega | (simp; omega) | simp) (by first | omega | (simp; omega) | simp) rfl (by omega) (by omega) rfl rfl rfl rfl rfl rfl rfl (by decide)
  · cases bd with
    | nil =>
      have hz : ((0 : Int) < 0) = False := eq_false (by omega)
      iterate 9 ((try (refine drvZ Tryz.func48 ?_; simp (maxSteps := 9999999) only [go_sem, rdr, Int.natCast_zero, hz])); (try ((with_reducible refine And.intro ?_ ?_) <;> (repeat' with_reducible apply And.intro) <;> try exact sd)))
      exact hfin 193 _ _ _ (n + 1) vs [] _ (by first | omega | (simp; omega) | simp) (by first | omega | (simp; omega) | simp) rfl (by omega) (by omega) rfl rfl rfl rfl rfl rfl rfl (by decide)
    | cons s r =>
      obtain ⟨k, t, ⟨ik, iv, iks⟩, ⟨vk, vv, vks⟩, c, b, e⟩ := s
      have hb4 : r.length + 1 ≤ 4 := hb4
      have hz : ((0 : Int) < (r.length : Int) + 1) = True := eq_true (by omega)
      iterate 9 ((try (refine drvZ Tryz.func48 ?_; simp (maxSteps := 9999999) only [go_sem, rdr, hz, stC_cons])); (try ((with_reducible refine And.intro ?_ ?_) <;> (repeat' with_reducible apply And.intro) <;> try exact sd)))
      refine XK.callG [0, 1857] (hnum (n + 1) [1, 4, -1, 2] (by omega) (by decide) (by decide)) ok69 (hhp2 rfl rfl) (hbT ()) (fun d h' ⟨_, _, _, e⟩ => by subst e; simp) ?_ (fun _ => ⟨by kernel_rfl, _, _, ⟨1, rfl, by simp, rfl⟩, by simp⟩)
      rintro _ _ ⟨w, rfl, hw, rfl⟩ _
      clear hw
      iterate 5 ((try (refine drvZ Tryz.func48 ?_; simp (maxSteps := 9999999) only [go_sem, rdr, hz, stC_cons])); (try ((with_reducible refine And.intro ?_ ?_) <;> (repeat' with_reducible apply And.intro) <;> try exact sd)))
      exact hfin 193 _ _ _ (n + 2) vs ((.mk k t (.mk ik iv iks) (.mk vk vv vks) w b e) :: r) _ (by first | omega | (simp; omega) | simp) (by first | omega | (simp; omega) | simp) rfl (by omega) (by omega) rfl rfl rfl rfl rfl rfl rfl (by decide)
  · iterate 8 ((try (refine drvZ Tryz.func48 ?_; simp (maxSteps := 9999999) only [go_sem, rdr])); (try ((with_reducible refine And.intro ?_ ?_) <;> (repeat' with_reducible apply And.intro) <;> try exact sd)))
    refine RetOb.ofQ (fun j => if j = 0 then some 0 else none) [] (.agg (Pg.cells ⟨[], [], []⟩)) [some (rdr bs ((n + 1 : Nat) : Int))] ?_ ?_ (by simp)
    · simp [enumL, hOf, DM, DMs, CM, CMs, HpOK, LowOK, upd, rdr, Pg.cells, isI, kf, St1.cellsL]
    · rw [← hR]; exact ⟨⟨[], [], []⟩, rfl, ⟨by simp, by simp, by simp, fun k => by simp [lsize], by simp⟩, n + 1, by omega, by omega, rfl⟩
  · have e0 : (v == 0) = false := by simp [h0]
    have e1 : (v == 1) = false := by simp [h1]
    have e2 : (v == 2) = false := by simp [h2]
    have e3 : (v == 3) = false := by simp [h3]
    have e4 : (v == 4) = false := by simp [h4]
    have e5 : (v == 5) = false := by simp [h5]
    have e6 : (v == 6) = false := by simp [h6]
    iterate 8 ((try (refine drvZ Tryz.func48 ?_; simp (maxSteps := 9999999) only [go_sem, rdr, h0, h1, h2, h3, h4, h5, h6, e0, e1, e2, e3, e4, e5, e6])); (try ((with_reducible refine And.intro ?_ ?_) <;> (repeat' with_reducible apply And.intro) <;> try exact sd)))
    exact hfin 193 _ _ _ (n + 1) vs bd _ (by omega) (by omega) rfl (by omega) (by omega) rfl rfl rfl rfl rfl rfl rfl (by decide)
end Go.Proofs.YtmagbjbanpgmhaaGreat.CtD

namespace Go.Proofs.YtmagbjbanpgmhaaGreat.CtD
open Go Go.CT CtF CtR

theorem fits_take {k : IntKind} {bs : List Int} (h : Fits k bs) (n : Nat) : Fits k (bs.take n) := fun x hx => h x (List.mem_of_mem_take hx)
theorem renCs_rdr (r : Nat → Nat) (bs : List Int) (n : Int) : renCs r (rdr bs n) = rdr bs n := renCs_kf r _ (rdr_kf bs n)
theorem prog_len {p : Pg} (h : progOK p = true) : 1 ≤ p.vars.length ∧ p.vars.length ≤ 12 ∧ p.arrays.length ≤ 2 := by
  simp only [progOK, headsOK, Bool.and_eq_true, decide_eq_true_eq] at h
  obtain ⟨⟨⟨⟨⟨_, h1⟩, h2⟩, h3⟩, _⟩, _⟩ := h
  omega

end Go.Proofs.YtmagbjbanpgmhaaGreat.CtD

namespace Go.Proofs.YtmagbjbanpgmhaaGreat.CtR
open Go Go.CT CtF

/-! Plain laws of runs. -/
end Go.Proofs.YtmagbjbanpgmhaaGreat.CtR

namespace Go.Proofs.YtmagbjbanpgmhaaGreat.CtR
open Go Go.CT CtF

theorem shape_bd (vs ar : List Int) (b1 b2 : List St1) : ∀ (d : Nat) (e : Ex), shape ⟨vs, ar, b1⟩ d e = shape ⟨vs, ar, b2⟩ d e
  | 0, _ => rfl
  | d + 1, .mk k v ks => by
    have h : shape ⟨vs, ar, b1⟩ d = shape ⟨vs, ar, b2⟩ d := funext (shape_bd vs ar b1 b2 d)
    simp only [shape, h]
    rfl
theorem right_bd (vs ar : List Int) (b1 b2 : List St1) (e : Ex) : right ⟨vs, ar, b1⟩ e = right ⟨vs, ar, b2⟩ e := by simp only [right, shape_bd vs ar b1 b2]
theorem stmtOK_bd (vs ar : List Int) (b1 b2 : List St1) : ∀ (d : Nat) (s : St1), stmtOK ⟨vs, ar, b1⟩ d s = stmtOK ⟨vs, ar, b2⟩ d s
  | 0, _ => rfl
  | d + 1, .mk k t ix v c b e => by
    have h : stmtOK ⟨vs, ar, b1⟩ d = stmtOK ⟨vs, ar, b2⟩ d := funext (stmtOK_bd vs ar b1 b2 d)
    simp only [stmtOK, headOK, right_bd vs ar b1 b2, h]
theorem lsize_app (d : Nat) (a b : List St1) : lsize d (a ++ b) = lsize d a + lsize d b := by simp [lsize]
theorem progOK_sub {vs ar : List Int} {bd b2 : List St1} (h : progOK ⟨vs, ar, bd⟩ = true) (hs : ∀ s ∈ b2, s ∈ bd) (hl : lsize 5 b2 ≤ lsize 5 bd) : progOK ⟨vs, ar, b2⟩ = true := by
  simp only [progOK, Bool.and_eq_true, decide_eq_true_eq, List.all_eq_true] at h ⊢
  exact ⟨⟨h.1.1, fun s hx => by rw [stmtOK_bd vs ar b2 bd]; exact h.1.2 s (hs s hx)⟩, by omega⟩
end Go.Proofs.YtmagbjbanpgmhaaGreat.CtR

namespace Go.Proofs.YtmagbjbanpgmhaaGreat.CtR
open Go Go.CT CtF

/-- The label of an expression. -/
def labB (vs ar : List Int) (k v : Int) : Nat := if k = 2 then (nth vs v).toNat else if k = 3 then (nth ar v).toNat else 0
def labN (vs ar : List Int) : Nat → Ex → Nat
  | 0, _ => 0
  | d + 1, .mk k v ks => (ks.map (labN vs ar d)).foldl (fun a b => a ||| b) (labB vs ar k v)
def lab3 (l : List Int) : Prop := ∀ x ∈ l, 0 ≤ x ∧ x ≤ 3
theorem or3 {a b : Nat} (ha : a ≤ 3) (hb : b ≤ 3) : a ||| b ≤ 3 := by
  have := Nat.or_lt_two_pow (x := a) (y := b) (n := 2) (by omega) (by omega)
  omega
theorem nth_lab {l : List Int} (h : lab3 l) (v : Int) : 0 ≤ nth l v ∧ nth l v ≤ 3 := by
  unfold nth
  rw [List.getD_eq_getElem?_getD]
  cases hx : l[v.toNat]? with
  | none => simp
  | some x => simpa using h x (List.mem_of_getElem? hx)
theorem foldl_or3 : ∀ (l : List Nat) (a : Nat), a ≤ 3 → (∀ x ∈ l, x ≤ 3) → l.foldl (fun a b => a ||| b) a ≤ 3
  | [], a, h, _ => h
  | x :: r, a, h, h2 => foldl_or3 r _ (or3 h (h2 x (by simp))) fun y hy => h2 y (by simp [hy])
theorem labN_le {vs ar : List Int} (h1 : lab3 vs) (h2 : lab3 ar) : ∀ (d : Nat) (e : Ex), labN vs ar d e ≤ 3
  | 0, _ => Nat.zero_le _
  | d + 1, .mk k v ks => by
    refine foldl_or3 _ _ ?_ fun x hx => ?_
    · unfold labB
      have := nth_lab h1 v
      have := nth_lab h2 v
      split
      · omega
      · split <;> omega
    · obtain ⟨y, _, rfl⟩ := List.mem_map.1 hx
      exact labN_le h1 h2 d y
theorem lab_succ (f : Ex → Nat) (a : Nat) (ks : List Ex) (i : Nat) (x : Ex) (h : ks[i]? = some x) : ((ks.take (i + 1)).map f).foldl (fun a b => a ||| b) a = ((ks.take i).map f).foldl (fun a b => a ||| b) a ||| f x := by
  rw [List.take_add_one, h]
  simp
theorem labs_of {p : Pg} (h : progOK p = true) : lab3 p.vars ∧ lab3 p.arrays := by
  simp only [progOK, headsOK, labs, Bool.and_eq_true, decide_eq_true_eq, List.all_eq_true] at h
  exact ⟨fun x hx => h.1.1.1.2 x hx, fun x hx => h.1.1.2 x hx⟩

end Go.Proofs.YtmagbjbanpgmhaaGreat.CtR

namespace Go.Proofs.YtmagbjbanpgmhaaGreat.CtR
open Go Go.CT CtF

def ctxI (vs ar : List Int) (s : St1) (c : Nat) : Nat := if s.kind = 3 then c ||| labN vs ar 5 s.value else c
theorem RetOb.two {R : D → List (Option (List C)) → Prop} {a b : Int} {hp : Hp} (h : R (.tup [DI .i64 a, DI .i64 b]) []) : RetOb 0 R (.tup [DI .i64 a, DI .i64 b]) hp :=
  RetOb.ofQ (fun _ => none) [] (.tup [DI .i64 a, DI .i64 b]) [] (by simp [enumL, DM, DMs, CM, HpOK, LowOK]) h (by simp)
end Go.Proofs.YtmagbjbanpgmhaaGreat.CtR

namespace Go.Proofs.YtmagbjbanpgmhaaGreat.CtR
open Go Go.CT CtF

end Go.Proofs.YtmagbjbanpgmhaaGreat.CtR

namespace Go.Proofs.YtmagbjbanpgmhaaGreat.CtD
open Go Go.CT CtF CtR

theorem ctInts (xs ys : List Int) (hl : xs.length ≤ mx) : DC Tryz.prog 27 [ints xs, ints ys] [] (fun r h => r = DB (decide (xs = ys)) ∧ h = []) := by
  have hmx := mx_eq
  have ret : ∀ (b : Bool) (hp : Hp), b = decide (xs = ys) → RetOb 0 (fun r h => r = DB (decide (xs = ys)) ∧ h = []) (DB b) hp := fun b hp h => RetOb.plain (d := DB _) ⟨by rw [h], rfl⟩ rfl
  by_cases hlen : xs.length = ys.length
  · have hb : ((xs.length : Int) != ys.length) = false := by simp [hlen]
    have he : ((xs.length : Int) = ys.length) = True := eq_true (by omega)
    refine dc_of_go Tryz.func27 rfl (by simp) ?_
    refine drv_sound (n := 100) (rs := _) Tryz.func27 mo rfl none _ _ ?_
    simp (maxSteps := 9999999) only [go_sem, ints, hb, he]
    refine Go.loopL (fun i : Nat => [(0, ints xs), (1, ints ys), (5, DI .i64 i)]) (fun _ => []) 1024 (fun i => i ≤ xs.length ∧ decide (xs = ys) = decide (xs.drop i = ys.drop i)) (fun i => xs.length - i) ?_ 0 some [] _ ⟨Nat.zero_le _, rfl⟩ ?_
    · intro i hi again
      refine drv_sound (n := 100) (rs := _) Tryz.func27 mo rfl none _ _ ?_
      rcases Nat.lt_or_ge i xs.length with hlt | hge
      · obtain ⟨x, hx⟩ : ∃ x, xs[i]? = some x := ⟨xs[i], by simp [hlt]⟩
        obtain ⟨y, hy⟩ : ∃ y, ys[i]? = some y := ⟨ys[i]'(by omega), by simp⟩
        have hI := hi.2
        obtain ⟨_, ex⟩ := List.getElem?_eq_some_iff.1 hx
        obtain ⟨hyl, ey⟩ := List.getElem?_eq_some_iff.1 hy
        rw [List.drop_eq_getElem_cons hlt, List.drop_eq_getElem_cons hyl, ex, ey] at hI
        simp (maxSteps := 9999999) only [go_sem, ints, hx, hy, hlt]
        (repeat' with_reducible apply And.intro) <;> (try first | omega | (simp only [InK]; omega) | (intro k e; cases e; rfl) | (intro hguard; exact ⟨hguard, by simp only [InK]; omega⟩) | kernel_rfl)
        · intro hne; exact ret _ _ (by rw [hI]; simp [hne])
        · intro heq; exact ⟨by simp only [InK]; omega, again (i + 1) some [] _ ⟨by omega, by rw [hI]; simp [heq]⟩ (by omega) (Mt.slots (by
            simp (maxSteps := 9999999) only [go_sem, TmOK, DM, DMs, CM, CMs, forall_eq, exists_eq_left, ints]))⟩
      · have hn : ¬ i < xs.length := by omega
        simp (maxSteps := 9999999) only [go_sem, ints, hn]
        refine ret _ _ ?_
        rw [hi.2, List.drop_of_length_le hge, List.drop_of_length_le (by omega)]; rfl
    · refine Mt.slots ?_
      simp (maxSteps := 9999999) only [go_sem, TmOK, DM, DMs, CM, CMs, forall_eq, exists_eq_left, ints]
  · have hb : ((xs.length : Int) != ys.length) = true := by simp; omega
    have he : ((xs.length : Int) = ys.length) = False := eq_false (by omega)
    refine dc_of_go Tryz.func27 rfl (by simp) ?_
    refine drv_sound (n := 100) (rs := _) Tryz.func27 mo rfl none _ _ ?_
    simp (maxSteps := 9999999) only [go_sem, ints, hb, he]
    refine ret _ _ ?_
    symm; rw [decide_eq_false_iff_not]; intro h; exact hlen (by rw [h])

end Go.Proofs.YtmagbjbanpgmhaaGreat.CtD

namespace Go.Proofs.YtmagbjbanpgmhaaGreat.CtR
open Go Go.CT CtF

/-- The cells that an expression reads, as bits. -/
def occB (nv : Nat) (k v : Int) : Nat := if k = 2 then 2 ^ v.toNat else if k = 3 then 2 ^ (nv + v.toNat) else 0
def occN (nv : Nat) : Nat → Ex → Nat
  | 0, _ => 0
  | d + 1, .mk k v ks => (ks.map (occN nv d)).foldl (fun a b => a ||| b) (occB nv k v)
end Go.Proofs.YtmagbjbanpgmhaaGreat.CtR

namespace Go.Proofs.YtmagbjbanpgmhaaGreat.CtD
open Go Go.CT CtF CtR

theorem none0_eq {e : Ex} (h : none0 e = true) : e = .mk 0 0 [] := by
  obtain ⟨k, v, ks⟩ := e
  simp only [none0, Ex.kind, Ex.value, Ex.kids, Bool.and_eq_true, beq_iff_eq, decide_eq_true_eq] at h
  obtain ⟨⟨rfl, rfl⟩, h3⟩ := h
  have : ks = [] := List.isEmpty_iff.1 h3
  rw [this]
theorem exprs_of {p : Pg} {d : Nat} {k t : Int} {ix v : Ex} {c : Int} {b e : List St1} (h : stmtOK p (d + 1) (.mk k t ix v c b e) = true) :
    (CtR.shape p 5 ix = true ∨ ix = .mk 0 0 []) ∧ (CtR.shape p 5 v = true ∨ v = .mk 0 0 []) := by
  have h1 := (stmtOK_succ h).1
  have hk := head_kind h1
  unfold headOK parts at h1
  rcases hk with ⟨hk, _, _, hr⟩ | ⟨rfl, _, _, hr, _, hr2⟩ | ⟨rfl, hr⟩ | ⟨rfl, _⟩
  · refine ⟨.inr (none0_eq ?_), .inl (right_shape hr).1⟩
    have hk4 : k ≠ 4 := by omega
    have hk2 : (k == 2) = false := by simp; omega
    simp [hk4, hk2] at h1
    exact h1.1.2.2
  · exact ⟨.inl (right_shape hr).1, .inl (right_shape hr2).1⟩
  · refine ⟨.inr (none0_eq ?_), .inl (right_shape hr).1⟩
    simp at h1
    exact h1.1.2.2
  · simp at h1
    refine ⟨.inr (none0_eq ?_), .inr (none0_eq ?_)⟩ <;> grind
theorem val_none {p : Pg} {d : Nat} {t : Int} {ix v : Ex} {c : Int} {b e : List St1} (h : stmtOK p (d + 1) (.mk 4 t ix v c b e) = true) : ix = .mk 0 0 [] ∧ v = .mk 0 0 [] := by
  have h1 := (stmtOK_succ h).1
  unfold headOK parts at h1
  simp at h1
  exact ⟨none0_eq (by grind), none0_eq (by grind)⟩
end Go.Proofs.YtmagbjbanpgmhaaGreat.CtD

namespace Go.Proofs.YtmagbjbanpgmhaaGreat.CtD
open Go Go.CT CtF CtR

/-- A statement of a slice, the wanted cells given as a predicate. -/
def cutS (q : Nat → Bool) (nv : Nat) (f : List St1 → List St1) : St1 → Option St1
  | .mk k t ix v c b e =>
    if k = 5 then some (.mk k t ix v c b e) else if k = 1 then (if q t.toNat then some (.mk k t ix v c b e) else none) else if k = 2 then (if q (nv + t.toNat) then some (.mk k t ix v c b e) else none)
    else if 0 < (f b).length + (f e).length then some (.mk k t ix v c (f b) (f e)) else none
def cutL (q : Nat → Bool) (nv : Nat) : Nat → List St1 → List St1
  | 0, _ => []
  | d + 1, l => l.filterMap (cutS q nv (cutL q nv d))
/-- The cells that the statements of a slice read, added to a set. -/
def addS (q : Nat → Bool) (nv : Nat) (f : List St1 → List St1) (g : List St1 → Nat) (a : Nat) : St1 → Nat
  | .mk k t ix v c b e =>
    let a1 := if k = 5 ∨ k = 1 ∨ k = 2 then a else a ||| (g b ||| g e)
    if (cutS q nv f (.mk k t ix v c b e)).isSome then a1 ||| (occN nv 5 v ||| occN nv 5 ix) else a1
def setN (q : Nat → Bool) (nv : Nat) : Nat → List St1 → Nat
  | 0, _ => 0
  | d + 1, l => l.foldl (addS q nv (cutL q nv d) (setN q nv d)) 0

end Go.Proofs.YtmagbjbanpgmhaaGreat.CtD

namespace Go.Proofs.YtmagbjbanpgmhaaGreat.CtD
open Go Go.CT CtF CtR

/-! Slices, plain: the least closed set. -/
def subB (a : Nat) (q : Nat → Bool) : Prop := ∀ i, a.testBit i = true → q i = true
theorem subB_or {a b : Nat} {q : Nat → Bool} : subB (a ||| b) q ↔ subB a q ∧ subB b q := by
  unfold subB
  constructor
  · intro h
    exact ⟨fun i hi => h i (by rw [Nat.testBit_or, hi, Bool.true_or]), fun i hi => h i (by rw [Nat.testBit_or, hi, Bool.or_true])⟩
  · rintro ⟨h1, h2⟩ i hi
    rw [Nat.testBit_or, Bool.or_eq_true] at hi
    exact hi.elim (h1 i) (h2 i)
theorem subB_zero (q : Nat → Bool) : subB 0 q := fun i h => by simp at h
def leB (q q' : Nat → Bool) : Prop := ∀ i, q i = true → q' i = true
/-- With more cells, a slice keeps more, and reads more. -/
theorem cut_mono (nv : Nat) {q q' : Nat → Bool} (h : leB q q') : ∀ (d : Nat) (l : List St1), (0 < (cutL q nv d l).length → 0 < (cutL q' nv d l).length) ∧ ∀ r, subB (setN q' nv d l) r → subB (setN q nv d l) r := by
  intro d
  induction d with
  | zero => intro l; exact ⟨fun h => h, fun r h => h⟩
  | succ d ih =>
    have hS : ∀ s, (cutS q nv (cutL q nv d) s).isSome = true → (cutS q' nv (cutL q' nv d) s).isSome = true := fun s => by
      obtain ⟨k, t, ix, v, c, b, e⟩ := s
      simp only [cutS]
      by_cases h5 : k = 5
      · simp [h5]
      · by_cases h1 : k = 1
        · simp only [h5, h1, if_false, if_true]
          cases hq : q t.toNat with
          | false => simp
          | true => simp [h _ hq]
        · by_cases h2 : k = 2
          · simp only [h5, h1, h2, if_false, if_true]
            cases hq : q (nv + t.toNat) with
            | false => simp
            | true => simp [h _ hq]
          · simp only [h5, h1, h2, if_false]
            intro hh
            have : 0 < (cutL q nv d b).length + (cutL q nv d e).length := by
              by_cases h0 : 0 < (cutL q nv d b).length + (cutL q nv d e).length
              · exact h0
              · rw [if_neg h0] at hh; simp at hh
            have h3 := (ih b).1
            have h4 := (ih e).1
            rw [if_pos (by omega)]; rfl
    have hA : ∀ s r a a', (subB a' r → subB a r) → subB (addS q' nv (cutL q' nv d) (setN q' nv d) a' s) r → subB (addS q nv (cutL q nv d) (setN q nv d) a s) r := fun s r a a' haa => by
      have hss := hS s
      obtain ⟨k, t, ix, v, c, b, e⟩ := s
      simp only [addS]
      have hb := (ih b).2 r
      have he := (ih e).2 r
      have h1 : subB (if k = 5 ∨ k = 1 ∨ k = 2 then a' else a' ||| (setN q' nv d b ||| setN q' nv d e)) r → subB (if k = 5 ∨ k = 1 ∨ k = 2 then a else a ||| (setN q nv d b ||| setN q nv d e)) r := by
        split
        · exact haa
        · intro hh
          rw [subB_or, subB_or] at hh ⊢
          exact ⟨haa hh.1, hb hh.2.1, he hh.2.2⟩
      intro hh
      cases hc : (cutS q nv (cutL q nv d) (.mk k t ix v c b e)).isSome with
      | true =>
        rw [hss hc] at hh
        simp only [if_true] at hh ⊢
        rw [subB_or] at hh ⊢
        exact ⟨h1 hh.1, hh.2⟩
      | false =>
        simp only [Bool.false_eq_true, if_false]
        apply h1
        split at hh
        · exact (subB_or.1 hh).1
        · exact hh
    intro l
    refine ⟨fun hl => ?_, fun r => ?_⟩
    · simp only [cutL] at hl ⊢
      obtain ⟨x, hx⟩ := List.exists_mem_of_length_pos hl
      obtain ⟨s, hs, he⟩ := List.mem_filterMap.1 hx
      have := hS s (by rw [he]; rfl)
      obtain ⟨y, hy⟩ := Option.isSome_iff_exists.1 this
      exact List.length_pos_of_mem (List.mem_filterMap.2 ⟨s, hs, hy⟩)
    · simp only [setN]
      have gen : ∀ (l : List St1) (a a' : Nat), (subB a' r → subB a r) → subB (l.foldl (addS q' nv (cutL q' nv d) (setN q' nv d)) a') r → subB (l.foldl (addS q nv (cutL q nv d) (setN q nv d)) a) r := fun l => by
        induction l with
        | nil => intro a a' h; exact h
        | cons s t iht => intro a a' h; exact iht _ _ (hA s r a a' h)
      exact gen l 0 0 (fun h => h)

structure Least (p : Pg) (ws : List Bool) (q : Nat → Bool) : Prop where
  want : ∀ i, ws.getD i false = true → q i = true
  closed : subB (setN q p.vars.length 5 p.body) q
  least : ∀ q' : Nat → Bool, (∀ i, ws.getD i false = true → q' i = true) → subB (setN q' p.vars.length 5 p.body) q' → leB q q'
theorem Least.eq {p : Pg} {ws : List Bool} {q q' : Nat → Bool} (h : Least p ws q) (h' : Least p ws q') : q = q' := funext fun i => by
  have h1 := h.least q' h'.want h'.closed i
  have h2 := h'.least q h.want h.closed i
  cases ha : q i <;> cases hb : q' i <;> simp_all

end Go.Proofs.YtmagbjbanpgmhaaGreat.CtD

namespace Go.Proofs.YtmagbjbanpgmhaaGreat.CtD
open Go Go.CT CtF CtR

def slP (p : Pg) (q : Nat → Bool) : Pg := ⟨p.vars, p.arrays, cutL q p.vars.length 5 p.body⟩
end Go.Proofs.YtmagbjbanpgmhaaGreat.CtD

namespace Go.Proofs.YtmagbjbanpgmhaaGreat.CtD
open Go Go.CT CtF CtR

def usesL (nv : Nat) : Nat → Ex → List Bool → List Bool
  | 0, _, L => L
  | d + 1, .mk k v ks, L => ks.foldl (fun L x => usesL nv d x L) (if k = 2 then L.set v.toNat true else if k = 3 then L.set (nv + v.toNat) true else L)
theorem usesL_len (nv : Nat) : ∀ (d : Nat) (e : Ex) (L : List Bool), (usesL nv d e L).length = L.length
  | 0, _, L => rfl
  | d + 1, .mk k v ks, L => by
    have gen : ∀ (ks : List Ex) (L : List Bool), (ks.foldl (fun L x => usesL nv d x L) L).length = L.length := fun ks => by
      induction ks with
      | nil => intro L; rfl
      | cons a r ih => intro L; rw [List.foldl_cons, ih, usesL_len nv d a L]
    simp only [usesL]
    rw [gen]
    split
    · simp
    · split <;> simp

end Go.Proofs.YtmagbjbanpgmhaaGreat.CtD

namespace Go.Proofs.YtmagbjbanpgmhaaGreat.CtD
open Go Go.CT CtF CtR

def needS (nv : Nat) (f : List St1 → List Bool → Bool × List Bool) (L : List Bool) : St1 → Bool × List Bool
  | .mk k t ix v c b e =>
    let y := if k = 1 then (L.getD t.toNat false, L) else if k = 2 then (L.getD (nv + t.toNat) false, L) else if k = 5 then (true, L) else ((f b L).1 || (f e (f b L).2).1, (f e (f b L).2).2)
    (y.1, if y.1 then usesL nv 5 ix (usesL nv 5 v y.2) else y.2)
def needL (nv : Nat) : Nat → List St1 → List Bool → Bool × List Bool
  | 0, _, L => (false, L)
  | d + 1, l, L => l.foldl (fun x s => (x.1 || (needS nv (needL nv d) x.2 s).1, (needS nv (needL nv d) x.2 s).2)) (false, L)
end Go.Proofs.YtmagbjbanpgmhaaGreat.CtD

namespace Go.Proofs.YtmagbjbanpgmhaaGreat.CtD
open Go Go.CT CtF CtR

end Go.Proofs.YtmagbjbanpgmhaaGreat.CtD

namespace Go.Proofs.YtmagbjbanpgmhaaGreat.CtD
open Go Go.CT CtF CtR

theorem cutL_nil (q : Nat → Bool) (nv d : Nat) : cutL q nv d [] = [] := by cases d <;> simp [cutL]
end Go.Proofs.YtmagbjbanpgmhaaGreat.CtD
