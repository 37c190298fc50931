/- Contracts of functions of the program, one behind the other, as plain data: what each call returns and which blocks it leaves. -/
import Derived.Test.YtpphageokplgoaaGreatVFacts
import Derived.Test.YtpphageokplgoaaGreatVAj
import Derived.Test.YtpphageokplgoaaGreatVAk
import Derived.Test.YtpphageokplgoaaGreatVAl
import Derived.Test.YtpphageokplgoaaGreatVAm
import Derived.Test.YtpphageokplgoaaGreatVAn
import Derived.Test.YtpphageokplgoaaGreatVAr
import Derived.Test.YtpphageokplgoaaGreatVAs
import Derived.Test.YtpphageokplgoaaGreatVAt
import Derived.Test.YtpphageokplgoaaGreatVAo
set_option linter.unusedVariables false
set_option linter.unusedSimpArgs false
set_option maxHeartbeats 16000000
set_option maxRecDepth 100000
namespace Go.Proofs.YtpphageokplgoaaGreat.CtD
open Go Go.CT CtF CtR
structure SmP (p : Pg) : Prop where
 nv : p.vars.length ≤ 13
 na : p.arrays.length ≤ 2
 nb : p.body.length ≤ 4
 sz : ∀ k, lsize k p.body ≤ 1000
 sm : ∀ s ∈ p.body, SmS 2 s
def bare : St1 → List Ex × List Ex × List St1 × List St1
 | .mk _ _ (.mk _ _ ki) (.mk _ _ kv) _ b e => (ki, kv, b, e)
theorem bare_size (k : Nat) {s s' : St1} (h : bare s = bare s') : tsize k s = tsize k s' := by
 obtain ⟨k1, t1, ⟨a1, b1, c1⟩, ⟨d1, e1, f1⟩, g1, h1, i1⟩ := s
 obtain ⟨k2, t2, ⟨a2, b2, c2⟩, ⟨d2, e2, f2⟩, g2, h2, i2⟩ := s'
 simp only [bare, Prod.mk.injEq] at h
 obtain ⟨rfl, rfl, rfl, rfl⟩ := h
 cases k <;> rfl
theorem SmE.any {k v k' v' : Int} {ks : List Ex} (h : SmE (.mk k v ks)) : SmE (.mk k' v' ks) := by
 cases h with | mk _ _ _ h h2 => exact .mk _ _ _ h h2
theorem bare_sm (d : Nat) {s s' : St1} (h : bare s = bare s') (hs : SmS d s) : SmS d s' := by
 obtain ⟨k1, t1, ⟨a1, b1, c1⟩, ⟨d1, e1, f1⟩, g1, h1, i1⟩ := s
 obtain ⟨k2, t2, ⟨a2, b2, c2⟩, ⟨d2, e2, f2⟩, g2, h2, i2⟩ := s'
 simp only [bare, Prod.mk.injEq] at h
 obtain ⟨rfl, rfl, rfl, rfl⟩ := h
 cases d with
 | zero => simp only [SmS] at hs ⊢; exact ⟨hs.1.any, hs.2.1.any, hs.2.2⟩
 | succ d => simp only [SmS] at hs ⊢; exact ⟨hs.1.any, hs.2.1.any, hs.2.2⟩
theorem bare_list (k : Nat) : ∀ {l l' : List St1}, l'.map bare = l.map bare → lsize k l' = lsize k l
 | [], [], _ => rfl
 | [], _ :: _, h => by simp at h
 | _ :: _, [], h => by simp at h
 | a :: r, b :: q, h => by
  simp only [List.map_cons, List.cons.injEq] at h
  have := bare_list k h.2
  simp only [lsize, List.map_cons, List.sum_cons] at this ⊢
  rw [this, bare_size k h.1]
theorem bare_sml {d : Nat} {l l' : List St1} (h : l'.map bare = l.map bare) (hs : ∀ s ∈ l, SmS d s) : ∀ s ∈ l', SmS d s := fun s hm => by
 have h1 : bare s ∈ l.map bare := by rw [← h]; exact List.mem_map.2 ⟨s, hm, rfl⟩
 obtain ⟨s0, h2, h3⟩ := List.mem_map.1 h1
 exact bare_sm d h3 (hs s0 h2)
def muR (bs : List Int) (n : Nat) (r : D) (h : List (Option (List C))) : Prop := ∃ p : Pg, r = .agg p.cells ∧ SmP p ∧ rdL bs n 5 h
theorem RetOb.prK {R : D → List (Option (List C)) → Prop} {p : Pg} {hp : Hp} {k0 k1 k2 nv na nb : Nat} {rc : List C} (hR : R (.agg p.cells) [some rc]) (hrc : ∀ c ∈ rc, kf c = true)
 (hz : hp 0 = some (some rc)) (h0 : hp k0 = some (some (p.vars.map I64))) (h1 : hp k1 = some (some (p.arrays.map I64))) (h2 : hp k2 = some (some (stC p.body))) (hv : nv = p.vars.length) (ha : na = p.arrays.length) (hb : nb = p.body.length)
 (hne : 0 ≠ k0 ∧ 0 ≠ k1 ∧ 0 ≠ k2) : RetOb 1 R (.agg [.msl k0 1 0 nv, .msl k1 1 0 na, .msl k2 11 0 nb]) hp := by
 subst hv ha hb
 obtain ⟨vs, ar, bd⟩ := p
 obtain ⟨n0, n1, n2⟩ := hne
 refine RetOb.ofQ (fun j => if j = 0 then some 0 else none) [k0, k1, k2] _ [some rc] ?_ hR (by simp)
 have e4 : ∀ {hT hS : Hp} {r : Nat → Option Nat} {fz : List Nat}, CMs hT r hS fz rc rc = True := eq_true (CMs.kf hrc)
 have g1 : (St1.cellsL bd).flatten = stC bd := by rw [St1.cellsL_eq]; rfl
 have g2 : ∀ x ∈ St1.cellsL bd, x.length = 11 := fun x hx => by rw [St1.cellsL_eq] at hx; obtain ⟨e, _, rfl⟩ := List.mem_map.1 hx; exact St1.cells_len e
 have g3 : ∀ x ∈ St1.cellsL bd, ∀ c ∈ x, kf c = true := fun x hx => by rw [St1.cellsL_eq] at hx; obtain ⟨e, _, rfl⟩ := List.mem_map.1 hx; exact st_kf e
 simp [enumL, DM, DMs, CM, CMs, HpOK, LowOK, hOf, upd, Pg.cells, isI, flat_I, kf, e4, hz, h0, h1, h2, g1, St1.cellsL_length, n0, n1, n2]
 exact ⟨g2, g3⟩
theorem DrP.smP {p : Pg} (h : DrP p) : SmP p := ⟨by have := h.nv; omega, h.na, h.nb, fun k => by
 have h1 := lsize_sm 2 k p.body h.sm
 have h2 : p.body.length * 9 ^ 2 ≤ 4 * 9 ^ 2 := Nat.mul_le_mul_right _ h.nb
 omega, h.sm⟩
theorem stC_cons (s : St1) (l : List St1) : stC (s :: l) = s.cells ++ stC l := by simp [stC]
theorem stC_nil : stC [] = [] := rfl
theorem l2Mutate (bs : List Int) (n : Nat) (p : Pg) (hb : Fits .u8 bs) (hl : bs.length ≤ 2000) (hn : n ≤ 274877906944) (hp : DrP p) : DC Tryz.prog 46 [.c (.ptr 0 0), .agg p.cells] [some (rdr bs n)] (muR bs n) := by
 have hmx := mx_eq
 have hsm := hp.smP
 have hcp := l2Copy p 2 (by have := hp.nv; omega) (by have := hp.na; omega) (by have := hp.nb; omega) hp.sm
 have hnum := fun n xs h1 h2 h3 => numO bs n xs hb hl h1 h2 h3
 generalize hR : muR bs n = R
 obtain ⟨vs, ar, bd⟩ := p
 have hv5 : vs.length ≤ 5 := hp.nv
 have ha2 : ar.length ≤ 2 := hp.na
 have hb4 : bd.length ≤ 4 := hp.nb
 have hfin : ∀ (k0 nv na nb : Nat) (n' : Nat) (va' : List Int) (bd' : List St1) (hp : Hp), va'.length ≤ 13 → bd'.length ≤ 4 → bd'.map bare = bd.map bare → n ≤ n' → n' ≤ n + 5 → hp 0 = some (some (rdr bs n')) → hp k0 = some (some (va'.map I64)) → hp 194 = some (some (ar.map I64)) → hp 195 = some (some (stC bd')) → nv = va'.length → na = ar.length → nb = bd'.length →
  0 ≠ k0 → RetOb 1 R (.agg [.msl k0 1 0 nv, .msl 194 1 0 na, .msl 195 11 0 nb]) hp := fun k0 nv na nb n' va' bd' hp g1 g1b g1c g2 g3 g4 g5 g6 g7 g8 g9 g10 e4 =>
  RetOb.prK (p := ⟨va', ar, bd'⟩) (by rw [← hR]; exact ⟨⟨va', ar, bd'⟩, rfl, ⟨g1, ha2, g1b, fun k => by rw [bare_list k g1c]; exact hsm.sz k, bare_sml g1c hsm.sm⟩, n', g2, g3, rfl⟩) (rdr_kf bs n') g4 g5 g6 g7 g8 g9 g10 ⟨e4, by decide, by decide⟩
 refine dcZ Tryz.func46 ?_
 simp (maxSteps := 9999999) only [go_sem, rdr]
 ((try (refine drvZ Tryz.func46 ?_; simp (maxSteps := 9999999) only [go_sem, rdr])); (try ((with_reducible refine And.intro ?_ ?_) <;> (repeat' with_reducible apply And.intro) <;> try exact sd)))
 refine XK.callG [] hcp ok76 (fun i' x h => by simp at h) (hbT ()) (fun d h' ⟨_, e⟩ => by subst e; simp) ?_
 rintro _ _ ⟨rfl, rfl⟩ _
 iterate 3 ((try (refine drvZ Tryz.func46 ?_; simp (maxSteps := 9999999) only [go_sem, renCs_I, renCs_stC, rdr])); (try ((with_reducible refine And.intro ?_ ?_) <;> (repeat' with_reducible apply And.intro) <;> try exact sd)))
 refine XK.callG [0] (pick bs n 60 hb hl (by omega) (by simp only [InK]; omega)) ok43 (hhp_one rfl) (hbT ()) (fun d h' ⟨v, _, _, e⟩ => by subst e; simp) ?_
 rintro _ _ ⟨v, rfl, hpv, rfl⟩ _
 have hpv : v = 0 ∨ v = 1 ∨ v = 2 ∨ v = 3 ∨ v = 4 ∨ v = 5 ∨ v = 6 ∨ (v ≠ 0 ∧ v ≠ 1 ∧ v ≠ 2 ∧ v ≠ 3 ∧ v ≠ 4 ∧ v ≠ 5 ∧ v ≠ 6) := by omega
 rcases hpv with rfl | rfl | rfl | rfl | rfl | rfl | rfl | ⟨h0, h1, h2, h3, h4, h5, h6⟩
 ·cases vs with
  | nil =>
   have hz : ((0 : Int) < 0) = False := eq_false (by omega)
   iterate 5 ((try (refine drvZ Tryz.func46 ?_; simp (maxSteps := 9999999) only [go_sem, rdr, Int.natCast_zero, hz])); (try ((with_reducible refine And.intro ?_ ?_) <;> (repeat' with_reducible apply And.intro) <;> try exact sd)))
   exact hfin 193 _ _ _ (n + 1) [] bd _ (by first | omega | (simp; omega) | simp) (by first | omega | (simp; omega) | simp) rfl (by omega) (by omega) rfl rfl rfl rfl rfl rfl rfl (by decide)
  | cons x r =>
   have hv5 : r.length + 1 ≤ 5 := hv5
   have hz : ((0 : Int) < (r.length : Int) + 1) = True := eq_true (by omega)
   iterate 5 ((try (refine drvZ Tryz.func46 ?_; simp (maxSteps := 9999999) only [go_sem, rdr, hz])); (try ((with_reducible refine And.intro ?_ ?_) <;> (repeat' with_reducible apply And.intro) <;> try exact sd)))
   refine XK.callG [0] (l1Draw bs (n + 1) hb hl (by omega)) ok90 (hhp_one rfl) (hbT ()) (fun d h' ⟨_, _, _, _, _, _, e⟩ => by subst e; simp) ?_ (fun _ => ⟨by kernel_rfl, _, _, ⟨0, rfl, by simp [InK], n + 1, by omega, by omega, rfl⟩, by simp⟩)
   rintro _ _ ⟨w, rfl, hw, n', hn1, hn2, rfl⟩ _
   iterate 5 ((try (refine drvZ Tryz.func46 ?_; simp (maxSteps := 9999999) only [go_sem, rdr, hz])); (try ((with_reducible refine And.intro ?_ ?_) <;> (repeat' with_reducible apply And.intro) <;> try exact sd)))
   exact hfin 193 _ _ _ n' (w :: r) bd _ (by first | omega | (simp; omega) | simp) (by omega) rfl (by omega) (by omega) rfl rfl rfl rfl rfl rfl rfl (by decide)
 ·iterate 5 ((try (refine drvZ Tryz.func46 ?_; simp (maxSteps := 9999999) only [go_sem, rdr])); (try ((with_reducible refine And.intro ?_ ?_) <;> (repeat' with_reducible apply And.intro) <;> try exact sd)))
  refine Go.loopQ (fun l : List Int => [(4, .c (.ptr 65 0)), (5, .c (.ptr 257 0))])
   (fun l => [(0, some (rdr bs ((n + 1 : Nat) : Int))), (65, some [.v (.slice none 0 0), .v (.slice none 0 0), .v (.slice none 0 0)]), (257, some [.msl 67 1 0 l.length, .msl 194 1 0 ar.length, .msl 195 11 0 bd.length]), (67, some (l.map I64)), (194, some (ar.map I64)), (195, some (stC bd))])
   4096 (fun l => l.length ≤ 13) (fun l => 13 - l.length) ?_ vs (fun j => if j = 67 then some 193 else some j) [] _ (by omega) ?_
  ·intro l hi again
   rcases Nat.lt_or_ge l.length 13 with hlt | hge
   ·have hz : ((l.length : Int) ≤ 12) = True := eq_true (by omega)
    refine drvL Tryz.func46 ?_
    simp (maxSteps := 9999999) only [go_sem, rdr, hz]
    iterate 4 ((try (refine drvZ Tryz.func46 ?_; simp (maxSteps := 9999999) only [go_sem, rdr, hz])); (try ((with_reducible refine And.intro ?_ ?_) <;> (repeat' with_reducible apply And.intro) <;> try exact sd)))
    refine again (l ++ [1]) (fun j => if j = 67 then some 4544 else some j) [] _ (by simp; omega) (by simp; omega) ?_
    simp (maxSteps := 9999999) only [go_sem, TmOK, DM, DMs, CM, CMs, forall_eq, exists_eq_left, Mq, HpOK, LowOK, rdr, i_snoc]
    simp
    exact ⟨CMs.kf (kf_app (kf_I _) (by simp [kf])), CMs.kf (kf_I _), CMs.kf (stC_kf _)⟩
   ·have hz : ((l.length : Int) ≤ 12) = False := eq_false (by omega)
    refine drvL Tryz.func46 ?_
    simp (maxSteps := 9999999) only [go_sem, rdr, hz]
    iterate 4 ((try (refine drvZ Tryz.func46 ?_; simp (maxSteps := 9999999) only [go_sem, rdr, hz])); (try ((with_reducible refine And.intro ?_ ?_) <;> (repeat' with_reducible apply And.intro) <;> try exact sd)))
    exact hfin 67 _ _ _ (n + 1) l bd _ (by omega) (by omega) rfl (by omega) (by omega) rfl rfl rfl rfl rfl rfl rfl (by decide)
  ·simp (maxSteps := 9999999) only [go_sem, TmOK, DM, DMs, CM, CMs, forall_eq, exists_eq_left, Mq, HpOK, LowOK, rdr]
   simp
   exact ⟨CMs.kf (kf_I _), CMs.kf (kf_I _), CMs.kf (stC_kf _)⟩
 ·cases bd with
  | nil =>
   have hz : ((0 : Int) < 0) = False := eq_false (by omega)
   iterate 9 ((try (refine drvZ Tryz.func46 ?_; simp (maxSteps := 9999999) only [go_sem, rdr, Int.natCast_zero, hz])); (try ((with_reducible refine And.intro ?_ ?_) <;> (repeat' with_reducible apply And.intro) <;> try exact sd)))
   exact hfin 193 _ _ _ (n + 1) vs [] _ (by first | omega | (simp; omega) | simp) (by first | omega | (simp; omega) | simp) rfl (by omega) (by omega) rfl rfl rfl rfl rfl rfl rfl (by decide)
  | cons s r =>
   obtain ⟨k, t, ⟨ik, iv, iks⟩, ⟨vk, vv, vks⟩, c, b, e⟩ := s
   have hb4 : r.length + 1 ≤ 4 := hb4
   have hz : ((0 : Int) < (r.length : Int) + 1) = True := eq_true (by omega)
   iterate 9 ((try (refine drvZ Tryz.func46 ?_; simp (maxSteps := 9999999) only [go_sem, rdr, hz, stC_cons])); (try ((with_reducible refine And.intro ?_ ?_) <;> (repeat' with_reducible apply And.intro) <;> try exact sd)))
   refine XK.callG [0, 1473] (hnum (n + 1) [0, 6, 1, 5, 2] (by omega) (by decide) (by decide)) ok86 (hhp2 rfl rfl) (hbT ()) (fun d h' ⟨_, _, _, e⟩ => by subst e; simp) ?_ (fun _ => ⟨by kernel_rfl, _, _, ⟨1, rfl, by simp, rfl⟩, by simp⟩)
   rintro _ _ ⟨w, rfl, hw, rfl⟩ _
   clear hw
   iterate 5 ((try (refine drvZ Tryz.func46 ?_; simp (maxSteps := 9999999) only [go_sem, rdr, hz, stC_cons])); (try ((with_reducible refine And.intro ?_ ?_) <;> (repeat' with_reducible apply And.intro) <;> try exact sd)))
   exact hfin 193 _ _ _ (n + 2) vs ((.mk w t (.mk ik iv iks) (.mk vk vv vks) c b e) :: r) _ (by first | omega | (simp; omega) | simp) (by first | omega | (simp; omega) | simp) rfl (by omega) (by omega) rfl rfl rfl rfl rfl rfl rfl (by decide)
 ·match bd, hb4 with
  | [], hb4 =>
   have hz : ((0 : Int) < 0) = False := eq_false (by omega)
   iterate 9 ((try (refine drvZ Tryz.func46 ?_; simp (maxSteps := 9999999) only [go_sem, rdr, Int.natCast_zero, hz])); (try ((with_reducible refine And.intro ?_ ?_) <;> (repeat' with_reducible apply And.intro) <;> try exact sd)))
   exact hfin 193 _ _ _ (n + 1) vs [] _ (by first | omega | (simp; omega) | simp) (by first | omega | (simp; omega) | simp) rfl (by omega) (by omega) rfl rfl rfl rfl rfl rfl rfl (by decide)
  | [a], hb4 =>
   obtain ⟨k, t, ⟨ik, iv, iks⟩, ⟨vk, vv, vks⟩, c0, b0, e0⟩ := a
   iterate 9 ((try (refine drvZ Tryz.func46 ?_; simp (maxSteps := 9999999) only [go_sem, rdr, stC_cons, stC_nil, Int.reduceSub, Int.natCast_zero])); (try ((with_reducible refine And.intro ?_ ?_) <;> (repeat' with_reducible apply And.intro) <;> try exact sd)))
   refine XK.callG [0, 1729] (hnum (n + 1) [-1, 12, 1, 9223372036854775807] (by omega) (by decide) (by decide)) ok86 (hhp2 rfl rfl) (hbT ()) (fun d h' ⟨_, _, _, e⟩ => by subst e; simp) ?_ (fun _ => ⟨by kernel_rfl, _, _, ⟨1, rfl, by simp, rfl⟩, by simp⟩)
   rintro _ _ ⟨w, rfl, hw, rfl⟩ _
   clear hw
   iterate 5 ((try (refine drvZ Tryz.func46 ?_; simp (maxSteps := 9999999) only [go_sem, rdr, stC_cons, stC_nil, Int.reduceSub, Int.natCast_zero])); (try ((with_reducible refine And.intro ?_ ?_) <;> (repeat' with_reducible apply And.intro) <;> try exact sd)))
   exact hfin 193 _ _ _ (n + 2) vs [(.mk k w (.mk ik iv iks) (.mk vk vv vks) c0 b0 e0)] _ (by first | omega | (simp; omega) | simp) (by first | omega | (simp; omega) | simp) rfl (by omega) (by omega) rfl rfl rfl rfl rfl rfl rfl (by decide)
  | [a, b], hb4 =>
   obtain ⟨k, t, ⟨ik, iv, iks⟩, ⟨vk, vv, vks⟩, c0, b0, e0⟩ := b
   obtain ⟨ka, ta, ⟨ika, iva, iksa⟩, ⟨vka, vva, vksa⟩, ca, ba, ea⟩ := a
   iterate 9 ((try (refine drvZ Tryz.func46 ?_; simp (maxSteps := 9999999) only [go_sem, rdr, stC_cons, stC_nil, Int.reduceSub, Int.natCast_zero])); (try ((with_reducible refine And.intro ?_ ?_) <;> (repeat' with_reducible apply And.intro) <;> try exact sd)))
   refine XK.callG [0, 1729] (hnum (n + 1) [-1, 12, 1, 9223372036854775807] (by omega) (by decide) (by decide)) ok86 (hhp2 rfl rfl) (hbT ()) (fun d h' ⟨_, _, _, e⟩ => by subst e; simp) ?_ (fun _ => ⟨by kernel_rfl, _, _, ⟨1, rfl, by simp, rfl⟩, by simp⟩)
   rintro _ _ ⟨w, rfl, hw, rfl⟩ _
   clear hw
   iterate 5 ((try (refine drvZ Tryz.func46 ?_; simp (maxSteps := 9999999) only [go_sem, rdr, stC_cons, stC_nil, Int.reduceSub, Int.natCast_zero])); (try ((with_reducible refine And.intro ?_ ?_) <;> (repeat' with_reducible apply And.intro) <;> try exact sd)))
   exact hfin 193 _ _ _ (n + 2) vs [(.mk ka ta (.mk ika iva iksa) (.mk vka vva vksa) ca ba ea), (.mk k w (.mk ik iv iks) (.mk vk vv vks) c0 b0 e0)] _ (by first | omega | (simp; omega) | simp) (by first | omega | (simp; omega) | simp) rfl (by omega) (by omega) rfl rfl rfl rfl rfl rfl rfl (by decide)
  | [a, b, c], hb4 =>
   obtain ⟨k, t, ⟨ik, iv, iks⟩, ⟨vk, vv, vks⟩, c0, b0, e0⟩ := c
   obtain ⟨ka, ta, ⟨ika, iva, iksa⟩, ⟨vka, vva, vksa⟩, ca, ba, ea⟩ := a
   obtain ⟨kb, tb, ⟨ikb, ivb, iksb⟩, ⟨vkb, vvb, vksb⟩, cb, bb, eb⟩ := b
   iterate 9 ((try (refine drvZ Tryz.func46 ?_; simp (maxSteps := 9999999) only [go_sem, rdr, stC_cons, stC_nil, Int.reduceSub, Int.natCast_zero])); (try ((with_reducible refine And.intro ?_ ?_) <;> (repeat' with_reducible apply And.intro) <;> try exact sd)))
   refine XK.callG [0, 1729] (hnum (n + 1) [-1, 12, 1, 9223372036854775807] (by omega) (by decide) (by decide)) ok86 (hhp2 rfl rfl) (hbT ()) (fun d h' ⟨_, _, _, e⟩ => by subst e; simp) ?_ (fun _ => ⟨by kernel_rfl, _, _, ⟨1, rfl, by simp, rfl⟩, by simp⟩)
   rintro _ _ ⟨w, rfl, hw, rfl⟩ _
   clear hw
   iterate 5 ((try (refine drvZ Tryz.func46 ?_; simp (maxSteps := 9999999) only [go_sem, rdr, stC_cons, stC_nil, Int.reduceSub, Int.natCast_zero])); (try ((with_reducible refine And.intro ?_ ?_) <;> (repeat' with_reducible apply And.intro) <;> try exact sd)))
   exact hfin 193 _ _ _ (n + 2) vs [(.mk ka ta (.mk ika iva iksa) (.mk vka vva vksa) ca ba ea), (.mk kb tb (.mk ikb ivb iksb) (.mk vkb vvb vksb) cb bb eb), (.mk k w (.mk ik iv iks) (.mk vk vv vks) c0 b0 e0)] _ (by first | omega | (simp; omega) | simp) (by first | omega | (simp; omega) | simp) rfl (by omega) (by omega) rfl rfl rfl rfl rfl rfl rfl (by decide)
  | [a, b, c, d], hb4 =>
   obtain ⟨k, t, ⟨ik, iv, iks⟩, ⟨vk, vv, vks⟩, c0, b0, e0⟩ := d
   obtain ⟨ka, ta, ⟨ika, iva, iksa⟩, ⟨vka, vva, vksa⟩, ca, ba, ea⟩ := a
   obtain ⟨kb, tb, ⟨ikb, ivb, iksb⟩, ⟨vkb, vvb, vksb⟩, cb, bb, eb⟩ := b
   obtain ⟨kc, tc, ⟨ikc, ivc, iksc⟩, ⟨vkc, vvc, vksc⟩, cc, bc, ec⟩ := c
   iterate 9 ((try (refine drvZ Tryz.func46 ?_; simp (maxSteps := 9999999) only [go_sem, rdr, stC_cons, stC_nil, Int.reduceSub, Int.natCast_zero])); (try ((with_reducible refine And.intro ?_ ?_) <;> (repeat' with_reducible apply And.intro) <;> try exact sd)))
   refine XK.callG [0, 1729] (hnum (n + 1) [-1, 12, 1, 9223372036854775807] (by omega) (by decide) (by decide)) ok86 (hhp2 rfl rfl) (hbT ()) (fun d h' ⟨_, _, _, e⟩ => by subst e; simp) ?_ (fun _ => ⟨by kernel_rfl, _, _, ⟨1, rfl, by simp, rfl⟩, by simp⟩)
   rintro _ _ ⟨w, rfl, hw, rfl⟩ _
   clear hw
   iterate 5 ((try (refine drvZ Tryz.func46 ?_; simp (maxSteps := 9999999) only [go_sem, rdr, stC_cons, stC_nil, Int.reduceSub, Int.natCast_zero])); (try ((with_reducible refine And.intro ?_ ?_) <;> (repeat' with_reducible apply And.intro) <;> try exact sd)))
   exact hfin 193 _ _ _ (n + 2) vs [(.mk ka ta (.mk ika iva iksa) (.mk vka vva vksa) ca ba ea), (.mk kb tb (.mk ikb ivb iksb) (.mk vkb vvb vksb) cb bb eb), (.mk kc tc (.mk ikc ivc iksc) (.mk vkc vvc vksc) cc bc ec), (.mk k w (.mk ik iv iks) (.mk vk vv vks) c0 b0 e0)] _ (by first | omega | (simp; omega) | simp) (by first | omega | (simp; omega) | simp) rfl (by omega) (by omega) rfl rfl rfl rfl rfl rfl rfl (by decide)
 ·cases bd with
  | nil =>
   have hz : ((0 : Int) < 0) = False := eq_false (by omega)
   iterate 9 ((try (refine drvZ Tryz.func46 ?_; simp (maxSteps := 9999999) only [go_sem, rdr, Int.natCast_zero, hz])); (try ((with_reducible refine And.intro ?_ ?_) <;> (repeat' with_reducible apply And.intro) <;> try exact sd)))
   exact hfin 193 _ _ _ (n + 1) vs [] _ (by first | omega | (simp; omega) | simp) (by first | omega | (simp; omega) | simp) rfl (by omega) (by omega) rfl rfl rfl rfl rfl rfl rfl (by decide)
  | cons s r =>
   obtain ⟨k, t, ⟨ik, iv, iks⟩, ⟨vk, vv, vks⟩, c, b, e⟩ := s
   have hb4 : r.length + 1 ≤ 4 := hb4
   have hz : ((0 : Int) < (r.length : Int) + 1) = True := eq_true (by omega)
   iterate 9 ((try (refine drvZ Tryz.func46 ?_; simp (maxSteps := 9999999) only [go_sem, rdr, hz, stC_cons])); (try ((with_reducible refine And.intro ?_ ?_) <;> (repeat' with_reducible apply And.intro) <;> try exact sd)))
   refine XK.callG [0, 1729] (hnum (n + 1) [-1, 256, 12, 1] (by omega) (by decide) (by decide)) ok86 (hhp2 rfl rfl) (hbT ()) (fun d h' ⟨_, _, _, e⟩ => by subst e; simp) ?_ (fun _ => ⟨by kernel_rfl, _, _, ⟨1, rfl, by simp, rfl⟩, by simp⟩)
   rintro _ _ ⟨w, rfl, hw, rfl⟩ _
   clear hw
   iterate 5 ((try (refine drvZ Tryz.func46 ?_; simp (maxSteps := 9999999) only [go_sem, rdr, hz, stC_cons])); (try ((with_reducible refine And.intro ?_ ?_) <;> (repeat' with_reducible apply And.intro) <;> try exact sd)))
   exact hfin 193 _ _ _ (n + 2) vs ((.mk k t (.mk ik iv iks) (.mk vk w vks) c b e) :: r) _ (by first | omega | (simp; omega) | simp) (by first | omega | (simp; omega) | simp) rfl (by omega) (by omega) rfl rfl rfl rfl rfl rfl rfl (by decide)
 ·cases bd with
  | nil =>
   have hz : ((0 : Int) < 0) = False := eq_false (by omega)
   iterate 9 ((try (refine drvZ Tryz.func46 ?_; simp (maxSteps := 9999999) only [go_sem, rdr, Int.natCast_zero, hz])); (try ((with_reducible refine And.intro ?_ ?_) <;> (repeat' with_reducible apply And.intro) <;> try exact sd)))
   exact hfin 193 _ _ _ (n + 1) vs [] _ (by first | omega | (simp; omega) | simp) (by first | omega | (simp; omega) | simp) rfl (by omega) (by omega) rfl rfl rfl rfl rfl rfl rfl (by decide)
  | cons s r =>
   obtain ⟨k, t, ⟨ik, iv, iks⟩, ⟨vk, vv, vks⟩, c, b, e⟩ := s
   have hb4 : r.length + 1 ≤ 4 := hb4
   have hz : ((0 : Int) < (r.length : Int) + 1) = True := eq_true (by omega)
   iterate 9 ((try (refine drvZ Tryz.func46 ?_; simp (maxSteps := 9999999) only [go_sem, rdr, hz, stC_cons])); (try ((with_reducible refine And.intro ?_ ?_) <;> (repeat' with_reducible apply And.intro) <;> try exact sd)))
   refine XK.callG [0, 1857] (hnum (n + 1) [1, 4, -1, 2] (by omega) (by decide) (by decide)) ok86 (hhp2 rfl rfl) (hbT ()) (fun d h' ⟨_, _, _, e⟩ => by subst e; simp) ?_ (fun _ => ⟨by kernel_rfl, _, _, ⟨1, rfl, by simp, rfl⟩, by simp⟩)
   rintro _ _ ⟨w, rfl, hw, rfl⟩ _
   clear hw
   iterate 5 ((try (refine drvZ Tryz.func46 ?_; simp (maxSteps := 9999999) only [go_sem, rdr, hz, stC_cons])); (try ((with_reducible refine And.intro ?_ ?_) <;> (repeat' with_reducible apply And.intro) <;> try exact sd)))
   exact hfin 193 _ _ _ (n + 2) vs ((.mk k t (.mk ik iv iks) (.mk vk vv vks) w b e) :: r) _ (by first | omega | (simp; omega) | simp) (by first | omega | (simp; omega) | simp) rfl (by omega) (by omega) rfl rfl rfl rfl rfl rfl rfl (by decide)
 ·iterate 8 ((try (refine drvZ Tryz.func46 ?_; simp (maxSteps := 9999999) only [go_sem, rdr])); (try ((with_reducible refine And.intro ?_ ?_) <;> (repeat' with_reducible apply And.intro) <;> try exact sd)))
  refine RetOb.ofQ (fun j => if j = 0 then some 0 else none) [] (.agg (Pg.cells ⟨[], [], []⟩)) [some (rdr bs ((n + 1 : Nat) : Int))] ?_ ?_ (by simp)
  ·simp [enumL, hOf, DM, DMs, CM, CMs, HpOK, LowOK, upd, rdr, Pg.cells, isI, kf, St1.cellsL]
  ·rw [← hR]; exact ⟨⟨[], [], []⟩, rfl, ⟨by simp, by simp, by simp, fun k => by simp [lsize], by simp⟩, n + 1, by omega, by omega, rfl⟩
 ·have e0 : (v == 0) = false := by simp [h0]
  have e1 : (v == 1) = false := by simp [h1]
  have e2 : (v == 2) = false := by simp [h2]
  have e3 : (v == 3) = false := by simp [h3]
  have e4 : (v == 4) = false := by simp [h4]
  have e5 : (v == 5) = false := by simp [h5]
  have e6 : (v == 6) = false := by simp [h6]
  iterate 8 ((try (refine drvZ Tryz.func46 ?_; simp (maxSteps := 9999999) only [go_sem, rdr, h0, h1, h2, h3, h4, h5, h6, e0, e1, e2, e3, e4, e5, e6])); (try ((with_reducible refine And.intro ?_ ?_) <;> (repeat' with_reducible apply And.intro) <;> try exact sd)))
  exact hfin 193 _ _ _ (n + 1) vs bd _ (by omega) (by omega) rfl (by omega) (by omega) rfl rfl rfl rfl rfl rfl rfl (by decide)
end Go.Proofs.YtpphageokplgoaaGreat.CtD
namespace Go.Proofs.YtpphageokplgoaaGreat.CtD
open Go Go.CT CtF CtR
def dmR (r : D) (h : List (Option (List C))) : Prop := ∃ (p : Pg) (m : Mm), r = .tup [.agg p.cells, .agg m.cells] ∧ SmP p ∧ SmM m ∧ h = []
theorem fits_take {k : IntKind} {bs : List Int} (h : Fits k bs) (n : Nat) : Fits k (bs.take n) := fun x hx => h x (List.mem_of_mem_take hx)
theorem renCs_rdr (r : Nat → Nat) (bs : List Int) (n : Int) : renCs r (rdr bs n) = rdr bs n := renCs_kf r _ (rdr_kf bs n)
theorem prog_len {p : Pg} (h : progOK p = true) : 1 ≤ p.vars.length ∧ p.vars.length ≤ 12 ∧ p.arrays.length ≤ 2 := by
 simp only [progOK, headsOK, Bool.and_eq_true, decide_eq_true_eq] at h
 obtain ⟨⟨⟨⟨⟨_, h1⟩, h2⟩, h3⟩, _⟩, _⟩ := h
 omega
theorem drawMemoryValid (bs : List Int) (hb : Fits .u8 bs) (hl : bs.length ≤ mx) : DC Tryz.prog 47 [bytesD bs] [] dmR := by
 have hmx := mx_eq
 have hop := l17Open bs hl
 have hb' := fits_take hb 2000
 have hl' : (bs.take 2000).length ≤ 2000 := by rw [List.length_take]; omega
 generalize hR : dmR = R
 generalize hbs : bs.take 2000 = b2 at *
 unfold bytesD
 unfold bytesD at hop
 refine dcZ Tryz.func47 ?_
 simp (maxSteps := 9999999) only [go_sem]
 ((try (refine drvZ Tryz.func47 ?_; simp (maxSteps := 9999999) only [go_sem])); (try ((with_reducible refine And.intro ?_ ?_) <;> (repeat' with_reducible apply And.intro) <;> try exact sd)))
 refine XK.callG [] hop ok41 (fun i' x h => by simp at h) (hbT ()) (fun d h' ⟨_, e⟩ => by subst e; simp) ?_
 rintro _ _ ⟨rfl, rfl⟩ _
 iterate 2 ((try (refine drvZ Tryz.func47 ?_; simp (maxSteps := 9999999) only [go_sem, renCs_rdr])); (try ((with_reducible refine And.intro ?_ ?_) <;> (repeat' with_reducible apply And.intro) <;> try exact sd)))
 have hpr := l2Program b2 0 hb' hl' (by omega)
 refine XK.callG [192] hpr ok42 (hhp_one (by simp [upd, renCs_rdr])) (hbT ()) (fun d h' ⟨_, _, _, _, _, _, e⟩ => by subst e; simp) ?_
 rintro _ _ ⟨p, rfl, hp, n1, hn1, hn2, rfl⟩ _
 have hln := prog_len hp.ok
 have hme := l3Memory b2 n1 p hb' hl' (by omega) ⟨hln.1, hln.2.1⟩ hln.2.2
 have hmu := fun n h => l2Mutate b2 n p hb' hl' h hp
 obtain ⟨vs, ar, bd⟩ := p
 iterate 2 ((try (refine drvZ Tryz.func47 ?_; simp (maxSteps := 9999999) only [go_sem, renCs_rdr])); (try ((with_reducible refine And.intro ?_ ?_) <;> (repeat' with_reducible apply And.intro) <;> try exact sd)))
 refine XK.callG [192] hme ok73 (hhp_one (by simp [upd, renCs_rdr])) (hbT ()) (fun d h' ⟨_, _, _, _, _, _, e⟩ => by subst e; simp) ?_
 rintro _ _ ⟨m, rfl, hm, n2, hn3, hn4, rfl⟩ _
 have hbe := l3Bend b2 n2 m hb' hl' (by omega) (by rw [hm.nv]; exact hm.nv12.2) (by rw [hm.na]; exact hm.na2) (fun a ha => (hm.arr a ha).1)
 obtain ⟨va, arr⟩ := m
 iterate 2 ((try (refine drvZ Tryz.func47 ?_; simp (maxSteps := 9999999) only [go_sem, renCs_rdr, Mm.cells])); (try ((with_reducible refine And.intro ?_ ?_) <;> (repeat' with_reducible apply And.intro) <;> try exact sd)))
 refine XK.callG [192] hbe ok91 (hhp_one (by simp [upd, renCs_rdr])) (hbT ()) (fun d h' ⟨_, _, _, _, _, _, e⟩ => by subst e; simp) ?_
 rintro _ _ ⟨m2, rfl, hm2, n3, hn5, hn6, rfl⟩ _
 obtain ⟨va2, arr2⟩ := m2
 iterate 2 ((try (refine drvZ Tryz.func47 ?_; simp (maxSteps := 9999999) only [go_sem, renCs_rdr, Mm.cells])); (try ((with_reducible refine And.intro ?_ ?_) <;> (repeat' with_reducible apply And.intro) <;> try exact sd)))
 refine XK.callG [192] (hmu n3 (by omega)) ok46 (hhp_one (by simp [upd, renCs_rdr])) (hbT ()) (fun d h' ⟨_, _, _, _, _, _, e⟩ => by subst e; simp) ?_ (fun _ => ⟨by kernel_rfl, _, _, ⟨⟨[], [], []⟩, rfl, ⟨by simp, by simp, by simp, fun k => by simp [lsize], by simp⟩, n3, by omega, by omega, rfl⟩, by simp⟩)
 rintro _ _ ⟨p2, rfl, hp2, n4, hn7, hn8, rfl⟩ _
 obtain ⟨vs2, ar2, bd2⟩ := p2
 iterate 3 ((try (refine drvZ Tryz.func47 ?_; simp (maxSteps := 9999999) only [go_sem, renCs_rdr, Mm.cells])); (try ((with_reducible refine And.intro ?_ ?_) <;> (repeat' with_reducible apply And.intro) <;> try exact sd)))
 refine RetOb.ofQ (fun _ => none) [] (.tup [.agg (Pg.cells ⟨vs2, ar2, bd2⟩), .agg (Mm.cells ⟨va2, arr2⟩)]) [] ?_ (by rw [← hR]; exact ⟨_, _, rfl, hp2, hm2, rfl⟩) (by simp)
 simp [enumL, DM, DMs, CM, CMs, HpOK, LowOK, hOf, Pg.cells, Mm.cells, isI]
theorem drawRunProgram (bs : List Int) (hb : Fits .u8 bs) (hl : bs.length ≤ mx) : DC Tryz.prog 15 [bytesD bs] [] dmR := by
 have hdm := drawMemoryValid bs hb hl
 generalize hR : dmR = R
 have hRR := hR
 unfold bytesD
 unfold bytesD at hdm
 refine dcZ Tryz.func15 ?_
 simp (maxSteps := 9999999) only [go_sem]
 ((try (refine drvZ Tryz.func15 ?_; simp (maxSteps := 9999999) only [go_sem])); (try ((with_reducible refine And.intro ?_ ?_) <;> (repeat' with_reducible apply And.intro) <;> try exact sd)))
 refine XK.callG [] hdm ok47 (fun i' x h => by simp at h) (hbT ()) (fun d h' ⟨_, _, _, _, _, e⟩ => by subst e; simp) ?_
 rintro _ _ ⟨⟨vs2, ar2, bd2⟩, ⟨va2, arr2⟩, rfl, hp2, hm2, rfl⟩ _
 iterate 3 ((try (refine drvZ Tryz.func15 ?_; simp (maxSteps := 9999999) only [go_sem, Mm.cells])); (try ((with_reducible refine And.intro ?_ ?_) <;> (repeat' with_reducible apply And.intro) <;> try exact sd)))
 refine RetOb.ofQ (fun _ => none) [] (.tup [.agg (Pg.cells ⟨vs2, ar2, bd2⟩), .agg (Mm.cells ⟨va2, arr2⟩)]) [] ?_ (by rw [← hR]; exact ⟨_, _, rfl, hp2, hm2, rfl⟩) (by simp)
 simp [enumL, DM, DMs, CM, CMs, HpOK, LowOK, hOf, Pg.cells, Mm.cells, isI]
end Go.Proofs.YtpphageokplgoaaGreat.CtD
namespace Go.Proofs.YtpphageokplgoaaGreat.CtR
open Go Go.CT CtF
theorem foldR_app (f : Mm → St1 → Mm × List Ev) : ∀ (a b : List St1) (m : Mm), foldR f m (a ++ b) = ((foldR f (foldR f m a).1 b).1, (foldR f m a).2 ++ (foldR f (foldR f m a).1 b).2)
 | [], b, m => by simp [foldR]
 | x :: r, b, m => by simp only [List.cons_append, foldR, foldR_app f r b, List.append_assoc]
end Go.Proofs.YtpphageokplgoaaGreat.CtR
namespace Go.Proofs.YtpphageokplgoaaGreat.CtR
open Go Go.CT CtF
theorem memOK_of {p : Pg} {m : Mm} (h : MemFits p m) : memOK p.vars p.arrays m = true := by
 simp only [memOK, vals01, arrOK, Bool.and_eq_true, decide_eq_true_eq, List.all_eq_true]
 refine ⟨⟨⟨by rw [h.nv], by rw [h.na]⟩, fun x hx => h.val x hx⟩, fun a ha => ⟨by have := (h.arr a ha).1; omega, fun x hx => (h.arr a ha).2 x hx⟩⟩
theorem runP_of {p : Pg} {m : Mm} (h1 : progOK p = true) (h2 : memOK p.vars p.arrays m = true) : runP p m = ((runL 5 m p.body).1, (runL 5 m p.body).2, true) := runP_true (by rw [h1, h2]; rfl)
theorem runP_ok {p : Pg} {m : Mm} (h : (runP p m).2.2 = true) : progOK p = true ∧ memOK p.vars p.arrays m = true := by
 cases hq : (progOK p && memOK p.vars p.arrays m) with
 | false => rw [runP_false hq] at h; cases h
 | true => simpa only [Bool.and_eq_true] using hq
theorem lsize_app (d : Nat) (a b : List St1) : lsize d (a ++ b) = lsize d a + lsize d b := by simp [lsize]
end Go.Proofs.YtpphageokplgoaaGreat.CtR
namespace Go.Proofs.YtpphageokplgoaaGreat.CtR
open Go Go.CT CtF
def labB (vs ar : List Int) (k v : Int) : Nat := if k = 2 then (nth vs v).toNat else if k = 3 then (nth ar v).toNat else 0
def labN (vs ar : List Int) : Nat → Ex → Nat
 | 0, _ => 0
 | d + 1, .mk k v ks => (ks.map (labN vs ar d)).foldl (fun a b => a ||| b) (labB vs ar k v)
def lab3 (l : List Int) : Prop := ∀ x ∈ l, 0 ≤ x ∧ x ≤ 3
theorem or3 {a b : Nat} (ha : a ≤ 3) (hb : b ≤ 3) : a ||| b ≤ 3 := by
 have := Nat.or_lt_two_pow (x := a) (y := b) (n := 2) (by omega) (by omega)
 omega
theorem nth_lab {l : List Int} (h : lab3 l) (v : Int) : 0 ≤ nth l v ∧ nth l v ≤ 3 := by
 unfold nth
 rw [List.getD_eq_getElem?_getD]
 cases hx : l[v.toNat]? with
 | none => simp
 | some x => simpa using h x (List.mem_of_getElem? hx)
theorem foldl_or3 : ∀ (l : List Nat) (a : Nat), a ≤ 3 → (∀ x ∈ l, x ≤ 3) → l.foldl (fun a b => a ||| b) a ≤ 3
 | [], a, h, _ => h
 | x :: r, a, h, h2 => foldl_or3 r _ (or3 h (h2 x (by simp))) fun y hy => h2 y (by simp [hy])
theorem labN_le {vs ar : List Int} (h1 : lab3 vs) (h2 : lab3 ar) : ∀ (d : Nat) (e : Ex), labN vs ar d e ≤ 3
 | 0, _ => Nat.zero_le _
 | d + 1, .mk k v ks => by
  refine foldl_or3 _ _ ?_ fun x hx => ?_
  ·unfold labB
   have := nth_lab h1 v
   have := nth_lab h2 v
   split
   ·omega
   ·split <;> omega
  ·obtain ⟨y, _, rfl⟩ := List.mem_map.1 hx
   exact labN_le h1 h2 d y
theorem lab_succ (f : Ex → Nat) (a : Nat) (ks : List Ex) (i : Nat) (x : Ex) (h : ks[i]? = some x) : ((ks.take (i + 1)).map f).foldl (fun a b => a ||| b) a = ((ks.take i).map f).foldl (fun a b => a ||| b) a ||| f x := by
 rw [List.take_add_one, h]
 simp
theorem labs_of {p : Pg} (h : progOK p = true) : lab3 p.vars ∧ lab3 p.arrays := by
 simp only [progOK, headsOK, labs, Bool.and_eq_true, decide_eq_true_eq, List.all_eq_true] at h
 exact ⟨fun x hx => h.1.1.1.2 x hx, fun x hx => h.1.1.2 x hx⟩
theorem labelI (p : Pg) (hl : p.vars.length ≤ mx) (hl2 : p.arrays.length ≤ mx) (h1 : lab3 p.vars) (h2 : lab3 p.arrays) : ∀ (d : Nat) (e : Ex), shape p d e = true → DC Tryz.prog 115 [.agg p.cells, .agg e.cells] [] (fun r h => r = DI .i64 (labN p.vars p.arrays d e) ∧ h = []) := by
 have hmx := mx_eq
 intro d
 induction d with
 | zero => intro e h; simp [shape] at h
 | succ d ih =>
  intro e hsh
  obtain ⟨k, v, ks⟩ := e
  obtain ⟨g1, g2, g3⟩ := shape_succ hsh
  obtain ⟨hl3, hla, hv0, hv1⟩ := fits_len g1
  obtain ⟨vs, ar, bd⟩ := p
  have h1 : lab3 vs := h1
  have h2 : lab3 ar := h2
  generalize hR : (fun (r : D) (h : List (Option (List C))) => r = DI .i64 (labN vs ar (d + 1) (.mk k v ks)) ∧ h = []) = R
  have hle := fun e => labN_le h1 h2 d e
  have hacc : ∀ i, ((ks.take i).map (labN vs ar d)).foldl (fun a b => a ||| b) (labB vs ar k v) ≤ 3 := fun i => by
   have := labN_le h1 h2 (d + 1) (.mk k v (ks.take i))
   exact this
  have hlb : labB vs ar k v ≤ 3 := hacc 0
  have key : k = 2 ∨ k = 3 ∨ (k ≠ 2 ∧ k ≠ 3) := by omega
  rcases key with hk | hk | ⟨hk2, hk3⟩
  ·have hv1' : v < vs.length := by subst hk; simpa [limit] using hv1
   have hx := (nth_mem (l := vs) hv0 hv1').1
   have hB : ((labB vs ar k v : Nat) : Int) = nth vs v := by have := nth_lab h1 v; simp [labB, hk]; omega
   have e2 : (k == 2) = true := by simp [hk]
   have e3 : (k == 3) = false := by simp [hk]
   have f2 : (k = 2) = True := by simp [hk]
   have f3 : (k = 3) = False := by simp [hk]
   refine dcZ Tryz.func115 ?_
   simp (maxSteps := 9999999) only [go_sem]
   iterate 4 ((try (refine drvZ Tryz.func115 ?_; simp (maxSteps := 9999999) only [go_sem, e2, e3, f2, f3, hx])); (try ((with_reducible refine And.intro ?_ ?_) <;> (repeat' with_reducible apply And.intro) <;> try exact sd)))
   refine Go.loopQ (fun i : Nat => [(2, .c (.ptr 0 0)), (5, DI .i64 (((ks.take i).map (labN vs ar d)).foldl (fun a b => a ||| b) (labB vs ar k v) : Nat)), (27, .c (.isl 3 (Ex.cellsL ks))), (28, DI .i64 ks.length), (29, DI .i64 i)]) (fun i => [(0, some (Pg.cells ⟨vs, ar, bd⟩))])
    4096 (fun i => i ≤ ks.length) (fun i => ks.length - i) ?_ 0 some [] _ (Nat.zero_le _) ?_
   ·intro i hi again
    rcases Nat.lt_or_ge i ks.length with hlt | hge
    ·obtain ⟨⟨k', v', ks'⟩, hx⟩ : ∃ x, ks[i]? = some x := ⟨ks[i], by simp [hlt]⟩
     have hsc := lab_succ (labN vs ar d) (labB vs ar k v) ks i _ hx
     have ha := hacc i
     have hb := hle (.mk k' v' ks')
     have hc := hacc (i + 1)
     rw [hsc] at hc
     generalize ((ks.take i).map (labN vs ar d)).foldl (fun a b => a ||| b) (labB vs ar k v) = acc at *
     refine drvL Tryz.func115 ?_
     simp (maxSteps := 9999999) only [go_sem, hx, hlt]
     iterate 2 ((try (refine drvZ Tryz.func115 ?_; simp (maxSteps := 9999999) only [go_sem, hx, hlt])); (try ((with_reducible refine And.intro ?_ ?_) <;> (repeat' with_reducible apply And.intro) <;> try exact sd)))
     refine XK.plain (ih (.mk k' v' ks') (g2 _ (List.mem_of_getElem? hx))) ok115 ?_ (hbT ())
     iterate 3 ((try (refine drvZ Tryz.func115 ?_; simp (maxSteps := 9999999) only [go_sem, hx, hlt])); (try ((with_reducible refine And.intro ?_ ?_) <;> (repeat' with_reducible apply And.intro) <;> try exact sd)))
     refine again (i + 1) some [] _ hlt (by omega) ?_
     simp (maxSteps := 9999999) only [go_sem, TmOK, DM, DMs, CM, CMs, forall_eq, exists_eq_left, Mq, HpOK, LowOK, hsc]
     simp
     rw [← List.map_take, hsc]
    ·have hn : ¬ i < ks.length := by omega
     obtain rfl : i = ks.length := by omega
     refine drvL Tryz.func115 ?_
     simp (maxSteps := 9999999) only [go_sem, hn, List.take_length]
     iterate 2 ((try (refine drvZ Tryz.func115 ?_; simp (maxSteps := 9999999) only [go_sem, hn, List.take_length])); (try ((with_reducible refine And.intro ?_ ?_) <;> (repeat' with_reducible apply And.intro) <;> try exact sd)))
     exact RetOb.plain (d := DI .i64 _) (by rw [← hR]; exact ⟨rfl, rfl⟩) rfl
   ·simp (maxSteps := 9999999) only [go_sem, TmOK, DM, DMs, CM, CMs, forall_eq, exists_eq_left, Mq, HpOK, LowOK, List.take_zero, List.map_nil, List.foldl_nil]
    simp [hB]
  ·have hv1' : v < ar.length := by subst hk; simpa [limit] using hv1
   have hx := (nth_mem (l := ar) hv0 hv1').1
   have hB : ((labB vs ar k v : Nat) : Int) = nth ar v := by have := nth_lab h2 v; simp [labB, hk]; omega
   have e2 : (k == 2) = false := by simp [hk]
   have e3 : (k == 3) = true := by simp [hk]
   have f2 : (k = 2) = False := by simp [hk]
   have f3 : (k = 3) = True := by simp [hk]
   refine dcZ Tryz.func115 ?_
   simp (maxSteps := 9999999) only [go_sem]
   iterate 4 ((try (refine drvZ Tryz.func115 ?_; simp (maxSteps := 9999999) only [go_sem, e2, e3, f2, f3, hx])); (try ((with_reducible refine And.intro ?_ ?_) <;> (repeat' with_reducible apply And.intro) <;> try exact sd)))
   refine Go.loopQ (fun i : Nat => [(2, .c (.ptr 0 0)), (5, DI .i64 (((ks.take i).map (labN vs ar d)).foldl (fun a b => a ||| b) (labB vs ar k v) : Nat)), (27, .c (.isl 3 (Ex.cellsL ks))), (28, DI .i64 ks.length), (29, DI .i64 i)]) (fun i => [(0, some (Pg.cells ⟨vs, ar, bd⟩))])
    4096 (fun i => i ≤ ks.length) (fun i => ks.length - i) ?_ 0 some [] _ (Nat.zero_le _) ?_
   ·intro i hi again
    rcases Nat.lt_or_ge i ks.length with hlt | hge
    ·obtain ⟨⟨k', v', ks'⟩, hx⟩ : ∃ x, ks[i]? = some x := ⟨ks[i], by simp [hlt]⟩
     have hsc := lab_succ (labN vs ar d) (labB vs ar k v) ks i _ hx
     have ha := hacc i
     have hb := hle (.mk k' v' ks')
     have hc := hacc (i + 1)
     rw [hsc] at hc
     generalize ((ks.take i).map (labN vs ar d)).foldl (fun a b => a ||| b) (labB vs ar k v) = acc at *
     refine drvL Tryz.func115 ?_
     simp (maxSteps := 9999999) only [go_sem, hx, hlt]
     iterate 2 ((try (refine drvZ Tryz.func115 ?_; simp (maxSteps := 9999999) only [go_sem, hx, hlt])); (try ((with_reducible refine And.intro ?_ ?_) <;> (repeat' with_reducible apply And.intro) <;> try exact sd)))
     refine XK.plain (ih (.mk k' v' ks') (g2 _ (List.mem_of_getElem? hx))) ok115 ?_ (hbT ())
     iterate 3 ((try (refine drvZ Tryz.func115 ?_; simp (maxSteps := 9999999) only [go_sem, hx, hlt])); (try ((with_reducible refine And.intro ?_ ?_) <;> (repeat' with_reducible apply And.intro) <;> try exact sd)))
     refine again (i + 1) some [] _ hlt (by omega) ?_
     simp (maxSteps := 9999999) only [go_sem, TmOK, DM, DMs, CM, CMs, forall_eq, exists_eq_left, Mq, HpOK, LowOK, hsc]
     simp
     rw [← List.map_take, hsc]
    ·have hn : ¬ i < ks.length := by omega
     obtain rfl : i = ks.length := by omega
     refine drvL Tryz.func115 ?_
     simp (maxSteps := 9999999) only [go_sem, hn, List.take_length]
     iterate 2 ((try (refine drvZ Tryz.func115 ?_; simp (maxSteps := 9999999) only [go_sem, hn, List.take_length])); (try ((with_reducible refine And.intro ?_ ?_) <;> (repeat' with_reducible apply And.intro) <;> try exact sd)))
     exact RetOb.plain (d := DI .i64 _) (by rw [← hR]; exact ⟨rfl, rfl⟩) rfl
   ·simp (maxSteps := 9999999) only [go_sem, TmOK, DM, DMs, CM, CMs, forall_eq, exists_eq_left, Mq, HpOK, LowOK, List.take_zero, List.map_nil, List.foldl_nil]
    simp [hB]
  ·have hB : labB vs ar k v = 0 := by simp [labB, hk2, hk3]
   have e2 : (k == 2) = false := by simp [hk2]
   have e3 : (k == 3) = false := by simp [hk3]
   refine dcZ Tryz.func115 ?_
   simp (maxSteps := 9999999) only [go_sem]
   iterate 4 ((try (refine drvZ Tryz.func115 ?_; simp (maxSteps := 9999999) only [go_sem, e2, e3, hk2, hk3])); (try ((with_reducible refine And.intro ?_ ?_) <;> (repeat' with_reducible apply And.intro) <;> try exact sd)))
   refine Go.loopQ (fun i : Nat => [(2, .c (.ptr 0 0)), (5, DI .i64 (((ks.take i).map (labN vs ar d)).foldl (fun a b => a ||| b) (labB vs ar k v) : Nat)), (27, .c (.isl 3 (Ex.cellsL ks))), (28, DI .i64 ks.length), (29, DI .i64 i)]) (fun i => [(0, some (Pg.cells ⟨vs, ar, bd⟩))])
    4096 (fun i => i ≤ ks.length) (fun i => ks.length - i) ?_ 0 some [] _ (Nat.zero_le _) ?_
   ·intro i hi again
    rcases Nat.lt_or_ge i ks.length with hlt | hge
    ·obtain ⟨⟨k', v', ks'⟩, hx⟩ : ∃ x, ks[i]? = some x := ⟨ks[i], by simp [hlt]⟩
     have hsc := lab_succ (labN vs ar d) (labB vs ar k v) ks i _ hx
     have ha := hacc i
     have hb := hle (.mk k' v' ks')
     have hc := hacc (i + 1)
     rw [hsc] at hc
     generalize ((ks.take i).map (labN vs ar d)).foldl (fun a b => a ||| b) (labB vs ar k v) = acc at *
     refine drvL Tryz.func115 ?_
     simp (maxSteps := 9999999) only [go_sem, hx, hlt]
     iterate 2 ((try (refine drvZ Tryz.func115 ?_; simp (maxSteps := 9999999) only [go_sem, hx, hlt])); (try ((with_reducible refine And.intro ?_ ?_) <;> (repeat' with_reducible apply And.intro) <;> try exact sd)))
     refine XK.plain (ih (.mk k' v' ks') (g2 _ (List.mem_of_getElem? hx))) ok115 ?_ (hbT ())
     iterate 3 ((try (refine drvZ Tryz.func115 ?_; simp (maxSteps := 9999999) only [go_sem, hx, hlt])); (try ((with_reducible refine And.intro ?_ ?_) <;> (repeat' with_reducible apply And.intro) <;> try exact sd)))
     refine again (i + 1) some [] _ hlt (by omega) ?_
     simp (maxSteps := 9999999) only [go_sem, TmOK, DM, DMs, CM, CMs, forall_eq, exists_eq_left, Mq, HpOK, LowOK, hsc]
     simp
     rw [← List.map_take, hsc]
    ·have hn : ¬ i < ks.length := by omega
     obtain rfl : i = ks.length := by omega
     refine drvL Tryz.func115 ?_
     simp (maxSteps := 9999999) only [go_sem, hn, List.take_length]
     iterate 2 ((try (refine drvZ Tryz.func115 ?_; simp (maxSteps := 9999999) only [go_sem, hn, List.take_length])); (try ((with_reducible refine And.intro ?_ ?_) <;> (repeat' with_reducible apply And.intro) <;> try exact sd)))
     exact RetOb.plain (d := DI .i64 _) (by rw [← hR]; exact ⟨rfl, rfl⟩) rfl
   ·simp (maxSteps := 9999999) only [go_sem, TmOK, DM, DMs, CM, CMs, forall_eq, exists_eq_left, Mq, HpOK, LowOK, List.take_zero, List.map_nil, List.foldl_nil]
    simp [hB]
end Go.Proofs.YtpphageokplgoaaGreat.CtR
namespace Go.Proofs.YtpphageokplgoaaGreat.CtR
open Go Go.CT CtF
def ctxI (vs ar : List Int) (s : St1) (c : Nat) : Nat := if s.kind = 3 then c ||| labN vs ar 5 s.value else c
def eachF {X : Type} (vs ar : List Int) (step : X → St1 → Nat → X) : Nat → Nat → X → List St1 → X
 | 0, _, x, _ => x
 | d + 1, c, x, l => l.foldl (fun x s => eachF vs ar step d (ctxI vs ar s c) (eachF vs ar step d (ctxI vs ar s c) (step x s c) s.body) s.els) x
theorem RetOb.two {R : D → List (Option (List C)) → Prop} {a b : Int} {hp : Hp} (h : R (.tup [DI .i64 a, DI .i64 b]) []) : RetOb 0 R (.tup [DI .i64 a, DI .i64 b]) hp :=
 RetOb.ofQ (fun _ => none) [] (.tup [DI .i64 a, DI .i64 b]) [] (by simp [enumL, DM, DMs, CM, HpOK, LowOK]) h (by simp)
theorem prog_len2 {p : Pg} (h : progOK p = true) : 1 ≤ p.vars.length ∧ p.vars.length ≤ 12 ∧ p.arrays.length ≤ 2 := by
 simp only [progOK, headsOK, Bool.and_eq_true, decide_eq_true_eq] at h
 obtain ⟨⟨⟨⟨⟨_, h1⟩, h2⟩, h3⟩, _⟩, _⟩ := h
 omega
end Go.Proofs.YtpphageokplgoaaGreat.CtR
