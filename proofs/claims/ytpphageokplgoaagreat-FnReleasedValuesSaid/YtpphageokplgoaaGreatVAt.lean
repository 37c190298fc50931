/- Contracts of functions of the program, one behind the other, as plain data: what each call returns and which blocks it leaves. -/
import Derived.Test.YtpphageokplgoaaGreatVFacts
import Derived.Test.YtpphageokplgoaaGreatVAj
import Derived.Test.YtpphageokplgoaaGreatVAk
import Derived.Test.YtpphageokplgoaaGreatVAl
import Derived.Test.YtpphageokplgoaaGreatVAm
import Derived.Test.YtpphageokplgoaaGreatVAn
import Derived.Test.YtpphageokplgoaaGreatVAr
import Derived.Test.YtpphageokplgoaaGreatVAs
set_option linter.unusedVariables false
set_option linter.unusedSimpArgs false
set_option maxHeartbeats 16000000
set_option maxRecDepth 100000
namespace Go.Proofs.YtpphageokplgoaaGreat.CtD
open Go Go.CT CtF CtR
def fixP : Pg := ⟨[0, 1], [], [.mk 1 1 Ex0 (.mk 2 0 []) 0 [] []]⟩
structure DrP (p : Pg) : Prop where
 ok : progOK p = true
 nv : p.vars.length ≤ 5
 na : p.arrays.length ≤ 2
 nb : p.body.length ≤ 4
 sm : ∀ s ∈ p.body, SmS 2 s
theorem DrP.fix : DrP fixP := ⟨by decide, by decide, by decide, by decide, fun s hs => by
 simp only [fixP, List.mem_singleton] at hs
 subst hs
 exact SmS.leaf SmE0 (.mk 2 0 [] (by simp) (fun x h => by simp at h))⟩
def prR (bs : List Int) (n : Nat) (r : D) (h : List (Option (List C))) : Prop := ∃ p : Pg, r = .agg p.cells ∧ DrP p ∧ rdL bs n 1000000 h
theorem i_snoc (l : List Int) (x : Int) : (l ++ [x]).map I64 = l.map I64 ++ [I64 x] := by simp
theorem l2Program (bs : List Int) (n : Nat) (hb : Fits .u8 bs) (hl : bs.length ≤ 2000) (hn : n ≤ 274877906944) : DC Tryz.prog 42 [.c (.ptr 0 0)] [some (rdr bs n)] (prR bs n) := by
 have hmx := mx_eq
 have hnum := fun n xs h1 h2 h3 => numO bs n xs hb hl h1 h2 h3
 generalize hR : prR bs n = R
 refine dcZ Tryz.func42 ?_
 simp (maxSteps := 9999999) only [go_sem, rdr]
 iterate 3 ((try (refine drvZ Tryz.func42 ?_; simp (maxSteps := 9999999) only [go_sem, rdr])); (try ((with_reducible refine And.intro ?_ ?_) <;> (repeat' with_reducible apply And.intro) <;> try exact sd)))
 refine XK.callG [0, 321] (hnum n [3, 4, 2, 5] (by omega) (by decide) (by decide)) ok86 (hhp2 rfl rfl) (hbT ()) (fun d h' ⟨_, _, _, e⟩ => by subst e; simp) ?_
 rintro _ _ ⟨nv, rfl, hnv, rfl⟩ _
 obtain ⟨a, rfl, ha5⟩ : ∃ a : Nat, nv = (a : Int) ∧ a ≤ 5 := ⟨nv.toNat, by simp at hnv; omega, by simp at hnv; omega⟩
 clear hnv
 iterate 1 (try (refine drvZ Tryz.func42 ?_; simp (maxSteps := 9999999) only [go_sem, rdr]))
 refine Go.loopQ (fun x : Nat × List Int => [(0, .c (.ptr 0 0)), (2, .c (.ptr 1 0)), (3, .c (.ptr 66 0)), (4, DI .i64 x.1)])
  (fun x => [(0, some (rdr bs ((n + 1 + x.2.length : Nat) : Int))), (1, some [.v (.slice none 0 0), .v (.slice none 0 0), .v (.slice none 0 0)]), (66, some [.msl 67 1 0 x.2.length, .v (.slice none 0 0), .v (.slice none 0 0)]), (67, some (x.2.map I64))])
  4096 (fun x => x.1 + x.2.length ≤ 5) (fun x => x.1) ?_ (a, []) (fun j => if j = 66 then some 129 else if j = 67 then none else some j) [] _ (by simp; omega) ?_
 ·rintro ⟨i, vs⟩ hi again
  simp only at hi
  rcases i with _ | i
  ·have hip : ((0 : Int) < 0) = False := eq_false (by omega)
   refine drvL Tryz.func42 ?_
   simp (maxSteps := 9999999) only [go_sem, rdr, hip, Int.natCast_zero]
   iterate 3 ((try (refine drvZ Tryz.func42 ?_; simp (maxSteps := 9999999) only [go_sem, rdr])); (try ((with_reducible refine And.intro ?_ ?_) <;> (repeat' with_reducible apply And.intro) <;> try exact sd)))
   refine XK.callG [0, 4288] (hnum (n + 1 + vs.length) [1, 2, 0, 1] (by omega) (by decide) (by decide)) ok86 (hhp2 rfl rfl) (hbT ()) (fun d h' ⟨_, _, _, e⟩ => by subst e; simp) ?_
   rintro _ _ ⟨nv, rfl, hnv, rfl⟩ _
   obtain ⟨a2, rfl, ha2⟩ : ∃ a : Nat, nv = (a : Int) ∧ a ≤ 2 := ⟨nv.toNat, by simp at hnv; omega, by simp at hnv; omega⟩
   clear hnv again
   ((try (refine drvZ Tryz.func42 ?_; simp (maxSteps := 9999999) only [go_sem, rdr])); (try ((with_reducible refine And.intro ?_ ?_) <;> (repeat' with_reducible apply And.intro) <;> try exact sd)))
   refine Go.loopQ (fun x : Nat × List Int => [(0, .c (.ptr 0 0)), (2, .c (.ptr 1 0)), (3, .c (.ptr 66 0)), (5, DI .i64 x.1)])
    (fun x => [(0, some (rdr bs ((n + 1 + vs.length + 1 + x.2.length : Nat) : Int))), (1, some [.v (.slice none 0 0), .v (.slice none 0 0), .v (.slice none 0 0)]), (66, some [isI vs, .msl 68 1 0 x.2.length, .v (.slice none 0 0)]), (68, some (x.2.map I64))])
    8192 (fun x => x.1 + x.2.length ≤ 2) (fun x => x.1) ?_ (a2, []) (fun j => if j = 68 then none else some j) [67] _ (by simp; omega) ?_
   ·rintro ⟨i, ar⟩ hi again
    simp only at hi
    rcases i with _ | i
    ·have hip : ((0 : Int) < 0) = False := eq_false (by omega)
     refine drv_sound (n := 3) (rs := _) Tryz.func42 mo rfl none _ _ ?_
     simp (maxSteps := 9999999) only [go_sem, rdr]
     refine XK.subQ (r := some) (fz := [68]) (tl := [(0, .c (.ptr 0 0)), (2, .c (.ptr 1 0)), (3, .c (.ptr 66 0)), (5, DI .i64 0)])
      (hl := [(0, some (rdr bs ((n + 1 + vs.length + 1 + ar.length : Nat) : Int))), (1, some [.v (.slice none 0 0), .v (.slice none 0 0), .v (.slice none 0 0)]), (66, some [isI vs, isI ar, .isl 11 []])]) ?_ ?_
     ·simp (maxSteps := 9999999) only [go_sem, TmOK, DM, DMs, CM, CMs, forall_eq, exists_eq_left, Mq, HpOK, LowOK, rdr]
      simp [CMs, kf, flat_I']
     iterate 3 ((try (refine drvZ Tryz.func42 ?_; simp (maxSteps := 9999999) only [go_sem, rdr, hip])); (try ((with_reducible refine And.intro ?_ ?_) <;> (repeat' with_reducible apply And.intro) <;> try exact sd)))
     refine XK.callG [0, 8512] (hnum (n + 1 + vs.length + 1 + ar.length) [2, 3, 1, 4] (by omega) (by decide) (by decide)) ok86 (hhp2 rfl rfl) (hbT ()) (fun d h' ⟨_, _, _, e⟩ => by subst e; simp) ?_ (fun _ => ⟨by kernel_rfl, _, _, ⟨1, rfl, by simp, rfl⟩, by simp⟩)
     rintro _ _ ⟨nv, rfl, hnv, rfl⟩ _
     obtain ⟨nn, rfl, hnn⟩ : ∃ a : Nat, nv = (a : Int) ∧ a ≤ 4 := ⟨nv.toNat, by simp at hnv; omega, by simp at hnv; omega⟩
     clear hnv again
     have hvs : vs.length ≤ 5 := by omega
     have har : ar.length ≤ 2 := by omega
     have hdb := ((draws bs ⟨vs, ar, []⟩ hb hl (by simp only; omega) (by simp only; omega) 2 (by omega)).2 (n + 1 + vs.length + 1 + ar.length + 1) nn hnn (by have := KS_le 2 (by omega); omega))
     iterate 2 ((try (refine drvZ Tryz.func42 ?_; simp (maxSteps := 9999999) only [go_sem, rdr, hip])); (try ((with_reducible refine And.intro ?_ ?_) <;> (repeat' with_reducible apply And.intro) <;> try exact sd)))
     refine XK.callG [0] hdb ok87 (hhp_one rfl) (hbT ()) (fun d h' ⟨_, _, _, _, _, _, _, e⟩ => by subst e; simp) ?_ (fun _ => ⟨by kernel_rfl, _, _, ⟨[], rfl, by simp, by simp, n + 1 + vs.length + 1 + ar.length + 1, by omega, by omega, rfl⟩, by simp⟩)
     rintro _ _ ⟨bd, rfl, hbl, hbs, m, hm1, hm2, rfl⟩ _
     have hKS : KS 2 = 87600 := rfl
     have hls := lsize_sm 2 5 bd hbs
     have hpv := programValidS ⟨vs, ar, bd⟩ (by simp only; omega) (by simp only; omega) (by simp only; omega)
     iterate 3 ((try (refine drvZ Tryz.func42 ?_; simp (maxSteps := 9999999) only [go_sem, rdr, hip])); (try ((with_reducible refine And.intro ?_ ?_) <;> (repeat' with_reducible apply And.intro) <;> try exact sd)))
     refine XK.plain hpv ok52 ?_ (hbT ())
     cases hq : progOK ⟨vs, ar, bd⟩ with
     | true =>
      iterate 3 ((try (refine drvZ Tryz.func42 ?_; simp (maxSteps := 9999999) only [go_sem, rdr, hq])); (try ((with_reducible refine And.intro ?_ ?_) <;> (repeat' with_reducible apply And.intro) <;> try exact sd)))
      refine RetOb.keep1 (d := .agg (Pg.cells ⟨vs, ar, bd⟩)) (cs := rdr bs m) (by rw [← hR]; exact ⟨⟨vs, ar, bd⟩, rfl, ⟨hq, hvs, har, hbl, hbs⟩, m, by omega, by omega, rfl⟩) rfl (rdr_kf _ _) ?_
      intro c hc
      simp only [Pg.cells, isI, List.mem_cons, List.not_mem_nil, or_false] at hc
      rcases hc with rfl | rfl | rfl <;> rfl
     | false =>
      iterate 3 ((try (refine drvZ Tryz.func42 ?_; simp (maxSteps := 9999999) only [go_sem, rdr, hq])); (try ((with_reducible refine And.intro ?_ ?_) <;> (repeat' with_reducible apply And.intro) <;> try exact sd)))
      refine RetOb.step some [] (.agg [.msl 8960 1 0 2, .isl 1 [], .msl 9152 11 0 1]) [(0, some (rdr bs m)), (8960, some [I64 0, I64 1]), (9152, some (stC fixP.body))] ?_ ?_
      ·simp [hOf, DM, DMs, CM, CMs, HpOK, LowOK, upd, rdr, stC, fixP, St1.cells, St1.cellsL, Ex.cells, Ex.cellsL, Ex0]
      refine RetOb.ofQ (fun j => if j = 0 then some 0 else none) [8960, 9152] (.agg (Pg.cells fixP)) [some (rdr bs m)] ?_ ?_ (by simp)
      ·simp [enumL, hOf, DM, DMs, CM, CMs, HpOK, LowOK, upd, rdr, stC, fixP, Pg.cells, isI, St1.cells, St1.cellsL, Ex.cells, Ex.cellsL, Ex0, kf]
      ·rw [← hR]; exact ⟨fixP, rfl, DrP.fix, m, by omega, by omega, rfl⟩
    ·have hip : ((0 : Int) < (i : Int) + 1) = True := eq_true (by omega)
     refine drvL Tryz.func42 ?_
     simp (maxSteps := 9999999) only [go_sem, rdr, hip]
     iterate 3 ((try (refine drvZ Tryz.func42 ?_; simp (maxSteps := 9999999) only [go_sem, rdr])); (try ((with_reducible refine And.intro ?_ ?_) <;> (repeat' with_reducible apply And.intro) <;> try exact sd)))
     refine XK.callG [0, 8512] (hnum (n + 1 + vs.length + 1 + ar.length) [0, 1, 0, 1, 3] (by omega) (by decide) (by decide)) ok86 (hhp2 rfl rfl) (hbT ()) (fun d h' ⟨_, _, _, e⟩ => by subst e; simp) ?_ (fun _ => ⟨by kernel_rfl, _, _, ⟨0, rfl, by simp, rfl⟩, by simp⟩)
     rintro _ _ ⟨v, rfl, hv, rfl⟩ _
     clear hv
     iterate 4 ((try (refine drvZ Tryz.func42 ?_; simp (maxSteps := 9999999) only [go_sem, rdr])); (try ((with_reducible refine And.intro ?_ ?_) <;> (repeat' with_reducible apply And.intro) <;> try exact sd)))
     refine again (i, ar ++ [v]) (fun j => if j = 68 then some 8704 else some j) [] _ (by simp; omega) (by simp) ?_
     simp (maxSteps := 9999999) only [go_sem, TmOK, DM, DMs, CM, CMs, forall_eq, exists_eq_left, Mq, HpOK, LowOK, rdr, i_snoc]
     simp
     exact ⟨by omega, CMs.kf (kf_app (kf_I _) (by simp [kf]))⟩
   ·simp (maxSteps := 9999999) only [go_sem, TmOK, DM, DMs, CM, CMs, forall_eq, exists_eq_left, Mq, HpOK, LowOK, rdr]
    simp [CMs, kf, flat_I']
  ·have hip : ((0 : Int) < (i : Int) + 1) = True := eq_true (by omega)
   refine drvL Tryz.func42 ?_
   simp (maxSteps := 9999999) only [go_sem, rdr, hip]
   iterate 3 ((try (refine drvZ Tryz.func42 ?_; simp (maxSteps := 9999999) only [go_sem, rdr])); (try ((with_reducible refine And.intro ?_ ?_) <;> (repeat' with_reducible apply And.intro) <;> try exact sd)))
   refine XK.callG [0, 4416] (hnum (n + 1 + vs.length) [0, 1, 0, 1, 2, 3] (by omega) (by decide) (by decide)) ok86 (hhp2 rfl rfl) (hbT ()) (fun d h' ⟨_, _, _, e⟩ => by subst e; simp) ?_ (fun _ => ⟨by kernel_rfl, _, _, ⟨0, rfl, by simp, rfl⟩, by simp⟩)
   rintro _ _ ⟨v, rfl, hv, rfl⟩ _
   clear hv
   iterate 4 ((try (refine drvZ Tryz.func42 ?_; simp (maxSteps := 9999999) only [go_sem, rdr])); (try ((with_reducible refine And.intro ?_ ?_) <;> (repeat' with_reducible apply And.intro) <;> try exact sd)))
   refine again (i, vs ++ [v]) (fun j => if j = 67 then some 4608 else some j) [] _ (by simp; omega) (by simp) ?_
   simp (maxSteps := 9999999) only [go_sem, TmOK, DM, DMs, CM, CMs, forall_eq, exists_eq_left, Mq, HpOK, LowOK, rdr, i_snoc]
   simp
   exact ⟨by omega, CMs.kf (kf_app (kf_I _) (by simp [kf]))⟩
 ·simp (maxSteps := 9999999) only [go_sem, TmOK, DM, DMs, CM, CMs, forall_eq, exists_eq_left, Mq, HpOK, LowOK, rdr]
  simp [CMs]
end Go.Proofs.YtpphageokplgoaaGreat.CtD
namespace Go.Proofs.YtpphageokplgoaaGreat.CtD
open Go Go.CT CtF CtR
def meR (bs : List Int) (n : Nat) (p : Pg) (r : D) (h : List (Option (List C))) : Prop := ∃ m : Mm, r = .agg m.cells ∧ MemFits p m ∧ rdL bs n 30 h
theorem a_snoc (l : List (List Int)) (x : List Int) : (l ++ [x]).map isI = l.map isI ++ [isI x] := by simp
theorem hdF (l : List (List Int)) : (l.map fun a => [isI a]).flatten = l.map isI := flat1 _ l
theorem rI (l : List Int) (x : Int) (h : ∀ y ∈ l, 0 ≤ y ∧ y ≤ 255) (h2 : 0 ≤ x ∧ x ≤ 255) : ∀ y ∈ l ++ [x], 0 ≤ y ∧ y ≤ 255 := fun y hy => by
 rcases List.mem_append.1 hy with h3 | h3
 ·exact h y h3
 ·rw [List.mem_singleton.1 h3]; exact h2
theorem l3Memory (bs : List Int) (n : Nat) (p : Pg) (hb : Fits .u8 bs) (hl : bs.length ≤ 2000) (hn : n ≤ 274877906944) (hp : 1 ≤ p.vars.length ∧ p.vars.length ≤ 12) (hp2 : p.arrays.length ≤ 2) : DC Tryz.prog 73 [.c (.ptr 0 0), .agg p.cells] [some (rdr bs n)] (meR bs n p) := by
 have hmx := mx_eq
 have hval := fun n h => l3Value bs n hb hl h
 generalize hR : meR bs n p = R
 obtain ⟨vs, ar, bd⟩ := p
 have hp : 1 ≤ vs.length ∧ vs.length ≤ 12 := hp
 have hp2 : ar.length ≤ 2 := hp2
 refine dcZ Tryz.func73 ?_
 simp (maxSteps := 9999999) only [go_sem, rdr]
 ((try (refine drvZ Tryz.func73 ?_; simp (maxSteps := 9999999) only [go_sem, rdr])); (try ((with_reducible refine And.intro ?_ ?_) <;> (repeat' with_reducible apply And.intro) <;> try exact sd)))
 refine Go.loopQ (fun x : Nat × List Int => [(0, .c (.ptr 0 0)), (3, .c (.ptr 1 0)), (4, .c (.ptr 65 0)), (5, .c (.ptr 66 0)), (6, DI .i64 x.2.length)])
  (fun x => [(0, some (rdr bs x.1)), (1, some (Pg.cells ⟨vs, ar, bd⟩)), (65, some [.v (.slice none 0 0), .v (.slice none 0 0)]), (66, some [.msl 67 1 0 x.2.length, .v (.slice none 0 0)]), (67, some (x.2.map I64))])
  4096 (fun x => x.2.length ≤ vs.length ∧ n ≤ x.1 ∧ x.1 ≤ n + x.2.length ∧ ∀ y ∈ x.2, 0 ≤ y ∧ y ≤ 255) (fun x => vs.length - x.2.length) ?_ (n, []) (fun j => if j = 66 then some 193 else if j = 67 then none else some j) [] _ (by simp) ?_
 ·rintro ⟨pos, l⟩ ⟨hi1, hi2, hi3, hi4⟩ again
  simp only at hi1 hi2 hi3 hi4
  rcases Nat.lt_or_ge l.length vs.length with hlt | hge
  ·refine drvL Tryz.func73 ?_
   simp (maxSteps := 9999999) only [go_sem, rdr, hlt]
   iterate 3 ((try (refine drvZ Tryz.func73 ?_; simp (maxSteps := 9999999) only [go_sem, rdr])); (try ((with_reducible refine And.intro ?_ ?_) <;> (repeat' with_reducible apply And.intro) <;> try exact sd)))
   refine XK.callG [0] (hval pos (by omega)) ok120 (hhp_one rfl) (hbT ()) (fun d h' ⟨_, _, _, _, _, _, e⟩ => by subst e; simp) ?_ (fun _ => ⟨by kernel_rfl, _, _, ⟨0, rfl, by omega, pos, by omega, by omega, rfl⟩, by simp⟩)
   rintro _ _ ⟨v, rfl, hv, pos', hp1, hp3, rfl⟩ _
   iterate 4 ((try (refine drvZ Tryz.func73 ?_; simp (maxSteps := 9999999) only [go_sem, rdr])); (try ((with_reducible refine And.intro ?_ ?_) <;> (repeat' with_reducible apply And.intro) <;> try exact sd)))
   refine again (pos', l ++ [v]) (fun j => if j = 67 then some 4736 else some j) [] _ ⟨by simp; omega, by omega, by simp; omega, rI l v hi4 hv⟩ (by simp; omega) ?_
   simp (maxSteps := 9999999) only [go_sem, TmOK, DM, DMs, CM, CMs, forall_eq, exists_eq_left, Mq, HpOK, LowOK, rdr, i_snoc]
   simp
   exact CMs.kf (kf_app (kf_I _) (by simp [kf]))
  ·have hnl : ¬ l.length < vs.length := by omega
   refine drvL Tryz.func73 ?_
   simp (maxSteps := 9999999) only [go_sem, rdr, hnl]
   iterate 3 ((try (refine drvZ Tryz.func73 ?_; simp (maxSteps := 9999999) only [go_sem, rdr])); (try ((with_reducible refine And.intro ?_ ?_) <;> (repeat' with_reducible apply And.intro) <;> try exact sd)))
   refine Go.loopQ (fun x : Nat × List (List Int) => [(0, .c (.ptr 0 0)), (3, .c (.ptr 1 0)), (4, .c (.ptr 65 0)), (5, .c (.ptr 66 0)), (7, DI .i64 x.2.length)])
    (fun x => [(0, some (rdr bs x.1)), (1, some (Pg.cells ⟨vs, ar, bd⟩)), (65, some [.v (.slice none 0 0), .v (.slice none 0 0)]), (66, some [isI l, .msl 68 1 0 x.2.length]), (68, some (x.2.map isI))])
    8192 (fun x => x.2.length ≤ ar.length ∧ n ≤ x.1 ∧ x.1 ≤ n + l.length + 4 * x.2.length ∧ ∀ a ∈ x.2, a.length = 4 ∧ ∀ y ∈ a, 0 ≤ y ∧ y ≤ 255) (fun x => ar.length - x.2.length) ?_ (pos, []) (fun j => if j = 68 then none else some j) [67] _ (by simp; omega) ?_
   ·clear again
    rintro ⟨pos, arrs⟩ ⟨hj1, hj2, hj3, hj4⟩ again
    simp only at hj1 hj2 hj3 hj4
    rcases Nat.lt_or_ge arrs.length ar.length with hlt | hge2
    ·refine drvL Tryz.func73 ?_
     simp (maxSteps := 9999999) only [go_sem, rdr, hlt]
     iterate 3 ((try (refine drvZ Tryz.func73 ?_; simp (maxSteps := 9999999) only [go_sem, rdr])); (try ((with_reducible refine And.intro ?_ ?_) <;> (repeat' with_reducible apply And.intro) <;> try exact sd)))
     refine Go.loopQ (fun x : Nat × List Int => [(0, .c (.ptr 0 0)), (3, .c (.ptr 1 0)), (4, .c (.ptr 65 0)), (5, .c (.ptr 66 0)), (7, DI .i64 arrs.length), (8, .c (.msl 69 1 0 x.2.length)), (9, DI .i64 x.2.length)])
      (fun x => [(0, some (rdr bs x.1)), (1, some (Pg.cells ⟨vs, ar, bd⟩)), (65, some [.v (.slice none 0 0), .v (.slice none 0 0)]), (66, some [isI l, .msl 68 1 0 arrs.length]), (68, some (arrs.map isI)), (69, some (x.2.map I64))])
      16384 (fun x => x.2.length ≤ 4 ∧ pos ≤ x.1 ∧ x.1 ≤ pos + x.2.length ∧ ∀ y ∈ x.2, 0 ≤ y ∧ y ≤ 255) (fun x => 4 - x.2.length) ?_ (pos, []) (fun j => if j = 69 then some 8512 else some j) [] _ (by simp) ?_
     ·rintro ⟨ps, a⟩ ⟨hk1, hk2, hk3, hk4⟩ again2
      simp only at hk1 hk2 hk3 hk4
      rcases Nat.lt_or_ge a.length 4 with hlt2 | hge3
      ·have h4 : ((a.length : Int) < 4) = True := eq_true (by omega)
       refine drvL Tryz.func73 ?_
       simp (maxSteps := 9999999) only [go_sem, rdr, h4]
       iterate 3 ((try (refine drvZ Tryz.func73 ?_; simp (maxSteps := 9999999) only [go_sem, rdr])); (try ((with_reducible refine And.intro ?_ ?_) <;> (repeat' with_reducible apply And.intro) <;> try exact sd)))
       refine XK.callG [0] (hval ps (by omega)) ok120 (hhp_one rfl) (hbT ()) (fun d h' ⟨_, _, _, _, _, _, e⟩ => by subst e; simp) ?_
       rintro _ _ ⟨v, rfl, hv, ps', hp1, hp3, rfl⟩ _
       iterate 4 ((try (refine drvZ Tryz.func73 ?_; simp (maxSteps := 9999999) only [go_sem, rdr])); (try ((with_reducible refine And.intro ?_ ?_) <;> (repeat' with_reducible apply And.intro) <;> try exact sd)))
       refine again2 (ps', a ++ [v]) (fun j => if j = 69 then some 16768 else some j) [] _ ⟨by simp; omega, by omega, by simp; omega, rI a v hk4 hv⟩ (by simp; omega) ?_
       simp (maxSteps := 9999999) only [go_sem, TmOK, DM, DMs, CM, CMs, forall_eq, exists_eq_left, Mq, HpOK, LowOK, rdr, i_snoc]
       simp
       exact ⟨CMs.kf (kf_A _), CMs.kf (kf_app (kf_I _) (by simp [kf]))⟩
      ·have h4 : ((a.length : Int) < 4) = False := eq_false (by omega)
       have ha4 : a.length = 4 := by omega
       refine drv_sound (n := 3) (rs := _) Tryz.func73 mo rfl none _ _ ?_
       simp (maxSteps := 9999999) only [go_sem, rdr]
       refine XK.freeze 8 69 1 a.length (a.map fun n => [I64 n]) ?_ (by rw [flat_I]; rfl) rfl (by simp) (by simp) (by simp [kf])
       iterate 6 ((try (refine drvZ Tryz.func73 ?_; simp (maxSteps := 9999999) only [go_sem, rdr, h4])); (try ((with_reducible refine And.intro ?_ ?_) <;> (repeat' with_reducible apply And.intro) <;> try exact sd)))
       refine again (ps, arrs ++ [a]) (fun j => if j = 68 then some 16768 else some j) [] _ ⟨by simp; omega, by omega, by simp; omega, ?_⟩ (by simp; omega) ?_
       ·intro b hb2
        rcases List.mem_append.1 hb2 with h3 | h3
        ·exact hj4 b h3
        ·rw [List.mem_singleton.1 h3]; exact ⟨ha4, hk4⟩
       ·simp (maxSteps := 9999999) only [go_sem, TmOK, DM, DMs, CM, CMs, forall_eq, exists_eq_left, Mq, HpOK, LowOK, rdr, a_snoc]
        simp
        exact CMs.kf (kf_app (kf_A _) (by simp [kf]))
     ·simp (maxSteps := 9999999) only [go_sem, TmOK, DM, DMs, CM, CMs, forall_eq, exists_eq_left, Mq, HpOK, LowOK, rdr]
      simp [CMs]
      exact CMs.kf (kf_A _)
    ·have hnl : ¬ arrs.length < ar.length := by omega
     refine drvL Tryz.func73 ?_
     simp (maxSteps := 9999999) only [go_sem, rdr, hnl]
     iterate 3 ((try (refine drvZ Tryz.func73 ?_; simp (maxSteps := 9999999) only [go_sem, rdr])); (try ((with_reducible refine And.intro ?_ ?_) <;> (repeat' with_reducible apply And.intro) <;> try exact sd)))
     refine RetOb.ofQ (fun j => if j = 0 then some 0 else none) [68] (.agg (Mm.cells ⟨l, arrs⟩)) [some (rdr bs pos)] ?_ ?_ (by simp)
     ·simp [enumL, hOf, DM, DMs, CM, CMs, HpOK, LowOK, upd, rdr, Mm.cells, isI, hdF, kf]
      exact (flat1 isI arrs).symm
     ·rw [← hR]; exact ⟨⟨l, arrs⟩, rfl, ⟨by simp only; omega, by simp only; omega, by simp only; omega, hp2, hi4, hj4⟩, pos, by omega, by omega, rfl⟩
   ·simp (maxSteps := 9999999) only [go_sem, TmOK, DM, DMs, CM, CMs, forall_eq, exists_eq_left, Mq, HpOK, LowOK, rdr]
    simp [CMs, kf, flat_I']
 ·simp (maxSteps := 9999999) only [go_sem, TmOK, DM, DMs, CM, CMs, forall_eq, exists_eq_left, Mq, HpOK, LowOK, rdr]
  simp [CMs]
end Go.Proofs.YtpphageokplgoaaGreat.CtD
namespace Go.Proofs.YtpphageokplgoaaGreat.CtD
open Go Go.CT CtF CtR
theorem sim_shrink {m : Nat} {I : Nat → Prop} {w : World} {s : Sg} {hp : Hp} (H : SimH I w s hp) (k : Nat) (cs ds : List C) (hk : hp k = some (some (cs ++ ds))) :
 SimH I w s (upd hp k (some (some cs))) ∧ Ext m I w s hp I w s (upd hp k (some (some cs))) := by
 rcases H.blk k _ hk with ⟨h1, h2⟩ | ⟨b, arr, T, h1, h2, h3, h4, h5⟩
 ·have e : cs = [] ∧ ds = [] := List.append_eq_nil_iff.1 h2
  have e2 : upd hp k (some (some cs)) = hp := funext fun j => by
   by_cases hj : j = k
   ·subst hj; rw [upd_same, hk, e.1, e.2]; rfl
   ·rw [upd_ne _ _ hj]
  rw [e2]
  exact ⟨H, Ext.refl _ _ _ _ _⟩
 ·refine sim_store (m := m) H k _ cs hk b arr arr T h1 h2 rfl (by rw [List.length_append] at h3; omega) (fun j hj => ?_) ?_
  ·obtain ⟨y, hy, hr⟩ := h5 j (by rw [List.length_append]; omega)
   refine ⟨y, hy, ?_⟩
   rw [List.getElem_append_left hj] at hr
   exact hr
  ·have : w.heap.setIfInBounds b (.cells arr T (0, 0)) = w.heap := by
    apply Array.ext_getElem?
    intro j
    rw [Array.getElem?_setIfInBounds]
    by_cases e : b = j
    ·subst e; rw [if_pos rfl, if_pos (lt_of_heap h2), h2]
    ·simp [e]
   rw [this]
theorem RetOb.shrink {m : Nat} {R : D → List (Option (List C)) → Prop} {d : D} {hp : Hp} {k : Nat} {cs ds : List C} (hk : hp k = some (some (cs ++ ds))) (hn : RetOb m R d (upd hp k (some (some cs)))) : RetOb m R d hp := fun I w s v H hv => by
 obtain ⟨H', E'⟩ := sim_shrink H k cs ds hk
 obtain ⟨I', s', d2, h2, g1, g2, g3, g4, g5⟩ := hn I w s v H' hv
 exact ⟨I', s', d2, h2, g1, g2, g3, E'.trans g4, g5⟩
def hdA (k2 k3 : Nat) : List (List Int) → List C
 | [] => []
 | [a] => [.msl k2 1 0 a.length]
 | a :: b :: _ => [.msl k2 1 0 a.length, .msl k3 1 0 b.length]
theorem RetOb.memK {R : D → List (Option (List C)) → Prop} {m : Mm} {hp : Hp} {k0 k1 k2 k3 nv na : Nat} {rc : List C} (hna : m.arrays.length ≤ 2) (hR : R (.agg m.cells) [some rc]) (hrc : ∀ c ∈ rc, kf c = true)
 (hz : hp 0 = some (some rc)) (h0 : hp k0 = some (some (m.vals.map I64))) (h1 : hp k1 = some (some (hdA k2 k3 m.arrays))) (h2 : hp k2 = some (some (blk0 m.arrays))) (h3 : hp k3 = some (some (blk1 m.arrays))) (hv : nv = m.vals.length) (hn : na = m.arrays.length)
 (hne : k0 ≠ k1 ∧ k0 ≠ k2 ∧ k0 ≠ k3 ∧ k1 ≠ k2 ∧ k1 ≠ k3 ∧ k2 ≠ k3 ∧ 0 ≠ k0 ∧ 0 ≠ k1 ∧ 0 ≠ k2 ∧ 0 ≠ k3) : RetOb 1 R (.agg [.msl k0 1 0 nv, .msl k1 1 0 na]) hp := by
 subst hv hn
 obtain ⟨va, arr⟩ := m
 obtain ⟨n01, n02, n03, n12, n13, n23, nt0, nt1, nt2, nt3⟩ := hne
 refine RetOb.step (fun j => if j = 0 then some 0 else if j = 1 then some k0 else if j = 2 then some k1 else none) [k2, k3] (.agg [.msl 1 1 0 va.length, .msl 2 1 0 arr.length]) [(0, some rc), (1, some (va.map I64)), (2, some (arr.map isI))] ?_ ?_
 ·have e3 : ∀ a : List Int, (a.map fun n => [C.v (.int .i64 n)]).flatten = a.map I64 := fun a => flat1 _ a
  have e4 : ∀ {hT hS : Hp} {r : Nat → Option Nat} {fz : List Nat}, CMs hT r hS fz rc rc = True := eq_true (CMs.kf hrc)
  match arr, hna, h1, h2, h3 with
  | [], _, h1, h2, h3 => simp [DM, DMs, CM, CMs, HpOK, LowOK, hOf, upd, hz, h0, CMs_I, e4, h1, hdA, n01, n02, n03, n12, n13, n23, nt0, nt1, nt2, nt3, Ne.symm n01, Ne.symm nt0, Ne.symm nt1, Ne.symm n23]
  | [a], _, h1, h2, h3 =>
   simp [DM, DMs, CM, CMs, HpOK, LowOK, hOf, upd, hz, h0, CMs_I, e4, h1, h2, hdA, n01, n02, n03, n12, n13, n23, nt0, nt1, nt2, nt3, Ne.symm n01, Ne.symm nt0, Ne.symm nt1, Ne.symm n23, e3, isI, blk0, kf]
  | [a, b], _, h1, h2, h3 =>
   simp [DM, DMs, CM, CMs, HpOK, LowOK, hOf, upd, hz, h0, CMs_I, e4, h1, h2, h3, hdA, n01, n02, n03, n12, n13, n23, nt0, nt1, nt2, nt3, Ne.symm n01, Ne.symm nt0, Ne.symm nt1, Ne.symm n23, e3, isI, blk0, blk1, kf]
 ·refine RetOb.ofQ (fun j => if j = 0 then some 0 else none) [1, 2] _ [some rc] ?_ hR (by simp)
  have e4 : ∀ {hT hS : Hp} {r : Nat → Option Nat} {fz : List Nat}, CMs hT r hS fz rc rc = True := eq_true (CMs.kf hrc)
  simp [enumL, DM, DMs, CM, CMs, HpOK, LowOK, hOf, upd, Mm.cells, isI, flat_I, kf, e4]
  exact (flat1 isI arr).symm
end Go.Proofs.YtpphageokplgoaaGreat.CtD
namespace Go.Proofs.YtpphageokplgoaaGreat.CtD
open Go Go.CT CtF CtR
def SmM (m : Mm) : Prop := m.vals.length ≤ 13 ∧ m.arrays.length ≤ 2 ∧ ∀ a ∈ m.arrays, a.length ≤ 4
def beR (bs : List Int) (n : Nat) (r : D) (h : List (Option (List C))) : Prop := ∃ m : Mm, r = .agg m.cells ∧ SmM m ∧ rdL bs n 5 h
theorem hdr_hdA (k k' : Nat) (arr : List (List Int)) (h : arr.length ≤ 2) (h4 : ∀ a ∈ arr, a.length = 4) : hdr k k' arr.length = hdA k k' arr := by
 match arr, h, h4 with
 | [], _, _ => rfl
 | [a], _, h4 => simp [hdr, hdA, h4 a (by simp)]
 | [a, b], _, h4 => simp [hdr, hdA, h4 a (by simp), h4 b (by simp)]
theorem l3Bend (bs : List Int) (n : Nat) (m : Mm) (hb : Fits .u8 bs) (hl : bs.length ≤ 2000) (hn : n ≤ 274877906944) (hv : m.vals.length ≤ 12) (ha : m.arrays.length ≤ 2) (h4 : ∀ a ∈ m.arrays, a.length = 4) : DC Tryz.prog 91 [.c (.ptr 0 0), .agg m.cells] [some (rdr bs n)] (beR bs n) := by
 have hmx := mx_eq
 have hcp := l3Copy m (by omega) ha h4
 generalize hR : beR bs n = R
 unfold memB at hcp
 obtain ⟨va, arr⟩ := m
 have hv : va.length ≤ 12 := hv
 have ha : arr.length ≤ 2 := ha
 have h4 : ∀ a ∈ arr, a.length = 4 := h4
 have hfin : ∀ (k0 nv na : Nat) (n' : Nat) (va' : List Int) (hp : Hp), va'.length ≤ 13 → n ≤ n' → n' ≤ n + 5 → hp 0 = some (some (rdr bs n')) → hp k0 = some (some (va'.map I64)) → hp 194 = some (some (hdr 195 196 arr.length)) → hp 195 = some (some (blk0 arr)) → hp 196 = some (some (blk1 arr)) → nv = va'.length → na = arr.length →
  (k0 ≠ 194 ∧ k0 ≠ 195 ∧ k0 ≠ 196 ∧ 0 ≠ k0) → RetOb 1 R (.agg [.msl k0 1 0 nv, .msl 194 1 0 na]) hp := fun k0 nv na n' va' hp g1 g2 g3 g4 g5 g6 g7 g8 g9 g10 ⟨e1, e2, e3, e4⟩ =>
  RetOb.memK (m := ⟨va', arr⟩) (k2 := 195) (k3 := 196) ha (by rw [← hR]; exact ⟨⟨va', arr⟩, rfl, ⟨g1, ha, fun a h => by have := h4 a h; omega⟩, n', g2, g3, rfl⟩) (rdr_kf bs n') g4 g5 (by rw [g6, hdr_hdA _ _ _ ha h4]) g7 g8 g9 g10
   ⟨e1, e2, e3, by decide, by decide, by decide, e4, by decide, by decide, by decide⟩
 refine dcZ Tryz.func91 ?_
 simp (maxSteps := 9999999) only [go_sem, Mm.cells, rdr]
 ((try (refine drvZ Tryz.func91 ?_; simp (maxSteps := 9999999) only [go_sem, rdr])); (try ((with_reducible refine And.intro ?_ ?_) <;> (repeat' with_reducible apply And.intro) <;> try exact sd)))
 refine XK.callG [] hcp ok111 (fun i' x h => by simp at h) (hbT ()) (fun d h' ⟨_, e⟩ => by subst e; simp) ?_
 rintro _ _ ⟨rfl, rfl⟩ _
 iterate 3 ((try (refine drvZ Tryz.func91 ?_; simp (maxSteps := 9999999) only [go_sem, renCs_I, renCs_hdr, renCs_b0, renCs_b1, rdr])); (try ((with_reducible refine And.intro ?_ ?_) <;> (repeat' with_reducible apply And.intro) <;> try exact sd)))
 refine XK.callG [0] (pick bs n 60 hb hl (by omega) (by simp only [InK]; omega)) ok43 (hhp_one rfl) (hbT ()) (fun d h' ⟨v, _, _, e⟩ => by subst e; simp) ?_
 rintro _ _ ⟨v, rfl, hpv, rfl⟩ _
 have hpv : v = 0 ∨ v = 1 ∨ v = 2 ∨ v = 3 ∨ (v ≠ 0 ∧ v ≠ 1 ∧ v ≠ 2 ∧ v ≠ 3) := by omega
 rcases hpv with rfl | rfl | rfl | rfl | ⟨h0, h1, h2, h3⟩
 ·iterate 4 ((try (refine drvZ Tryz.func91 ?_; simp (maxSteps := 9999999) only [go_sem, rdr])); (try ((with_reducible refine And.intro ?_ ?_) <;> (repeat' with_reducible apply And.intro) <;> try exact sd)))
  exact hfin 833 _ _ (n + 1) (va ++ [0]) _ (by simp; omega) (by omega) (by omega) rfl (by rw [i_snoc]; rfl) rfl rfl rfl (by simp) rfl (by decide)
 ·cases va with
  | nil =>
   have hz : ((0 : Int) < 0) = False := eq_false (by omega)
   iterate 5 ((try (refine drvZ Tryz.func91 ?_; simp (maxSteps := 9999999) only [go_sem, rdr, Int.natCast_zero, hz])); (try ((with_reducible refine And.intro ?_ ?_) <;> (repeat' with_reducible apply And.intro) <;> try exact sd)))
   exact hfin 193 _ _ (n + 1) [] _ (by simp) (by omega) (by omega) rfl rfl rfl rfl rfl rfl rfl (by decide)
  | cons x r =>
   have hz : ((0 : Int) < (r.length : Int) + 1) = True := eq_true (by omega)
   have hv : r.length + 1 ≤ 12 := hv
   iterate 5 ((try (refine drvZ Tryz.func91 ?_; simp (maxSteps := 9999999) only [go_sem, rdr, hz])); (try ((with_reducible refine And.intro ?_ ?_) <;> (repeat' with_reducible apply And.intro) <;> try exact sd)))
   refine XK.callG [0, 1217] (numO bs (n + 1) [-1, 256, 9223372036854775807] hb hl (by omega) (by decide) (by decide)) ok86 (hhp2 rfl rfl) (hbT ()) (fun d h' ⟨_, _, _, e⟩ => by subst e; simp) ?_ (fun _ => ⟨by kernel_rfl, _, _, ⟨-1, rfl, by simp, rfl⟩, by simp⟩)
   rintro _ _ ⟨w, rfl, hw, rfl⟩ _
   clear hw
   iterate 5 ((try (refine drvZ Tryz.func91 ?_; simp (maxSteps := 9999999) only [go_sem, rdr, hz])); (try ((with_reducible refine And.intro ?_ ?_) <;> (repeat' with_reducible apply And.intro) <;> try exact sd)))
   exact hfin 193 _ _ (n + 2) (w :: r) _ (by simp; omega) (by omega) (by omega) rfl rfl rfl rfl rfl rfl rfl (by decide)
 ·match arr, ha, h4 with
  | [], ha, h4 =>
   have hz : ((0 : Int) < 0) = False := eq_false (by omega)
   iterate 6 ((try (refine drvZ Tryz.func91 ?_; simp (maxSteps := 9999999) only [go_sem, rdr, Int.natCast_zero, hz])); (try ((with_reducible refine And.intro ?_ ?_) <;> (repeat' with_reducible apply And.intro) <;> try exact sd)))
   exact hfin 193 _ _ (n + 1) va _ (by omega) (by omega) (by omega) rfl rfl rfl rfl rfl rfl rfl (by decide)
  | a :: rest, ha, h4 =>
   have hz : ((0 : Int) < (rest.length : Int) + 1) = True := eq_true (by omega)
   have ha4 : a.length = 4 := h4 a (by simp)
   have hrl : rest.length + 1 ≤ 2 := ha
   iterate 6 ((try (refine drvZ Tryz.func91 ?_; simp (maxSteps := 9999999) only [go_sem, rdr, hz, hdr])); (try ((with_reducible refine And.intro ?_ ?_) <;> (repeat' with_reducible apply And.intro) <;> try exact sd)))
   have hsp : a.map I64 = (a.take 3).map I64 ++ (a.drop 3).map I64 := by rw [← List.map_append, List.take_append_drop]
   refine RetOb.shrink (k := 195) (cs := (a.take 3).map I64) (ds := (a.drop 3).map I64) ?_ ?_
   ·rw [← hsp]; rfl
   have ha3 : (a.take 3).length = 3 := by rw [List.length_take]; omega
   match rest, hrl with
   | [], _ =>
    exact RetOb.memK (m := ⟨va, [a.take 3]⟩) (k0 := 193) (k1 := 194) (k2 := 195) (k3 := 196) (rc := rdr bs ((n + 1 : Nat) : Int)) (by simp) (by rw [← hR]; exact ⟨⟨va, [a.take 3]⟩, rfl, ⟨by simp only; omega, by simp, by simp; omega⟩, n + 1, by omega, by omega, rfl⟩) (rdr_kf _ _) rfl rfl (by simp [upd, hdA, ha3]) rfl rfl rfl rfl (by decide)
   | [b], _ =>
    have hb4 : b.length = 4 := h4 b (by simp)
    exact RetOb.memK (m := ⟨va, [a.take 3, b]⟩) (k0 := 193) (k1 := 194) (k2 := 195) (k3 := 196) (rc := rdr bs ((n + 1 : Nat) : Int)) (by simp) (by rw [← hR]; exact ⟨⟨va, [a.take 3, b]⟩, rfl, ⟨by simp only; omega, by simp, by simp [hb4]; omega⟩, n + 1, by omega, by omega, rfl⟩) (rdr_kf _ _) rfl rfl (by simp [upd, hdA, ha3, hb4]) rfl rfl rfl rfl (by decide)
 ·iterate 6 ((try (refine drvZ Tryz.func91 ?_; simp (maxSteps := 9999999) only [go_sem, rdr])); (try ((with_reducible refine And.intro ?_ ?_) <;> (repeat' with_reducible apply And.intro) <;> try exact sd)))
  refine RetOb.ofQ (fun j => if j = 0 then some 0 else none) [] (.agg (Mm.cells ⟨[], []⟩)) [some (rdr bs ((n + 1 : Nat) : Int))] ?_ ?_ (by simp)
  ·simp [enumL, hOf, DM, DMs, CM, CMs, HpOK, LowOK, upd, rdr, Mm.cells, isI, kf]
  ·rw [← hR]; exact ⟨⟨[], []⟩, rfl, ⟨by simp, by simp, by simp⟩, n + 1, by omega, by omega, rfl⟩
 ·have e0 : (v == 0) = false := by simp [h0]
  have e1 : (v == 1) = false := by simp [h1]
  have e2 : (v == 2) = false := by simp [h2]
  have e3 : (v == 3) = false := by simp [h3]
  iterate 6 ((try (refine drvZ Tryz.func91 ?_; simp (maxSteps := 9999999) only [go_sem, rdr, h0, h1, h2, h3, e0, e1, e2, e3])); (try ((with_reducible refine And.intro ?_ ?_) <;> (repeat' with_reducible apply And.intro) <;> try exact sd)))
  exact hfin 193 _ _ (n + 1) va _ (by omega) (by omega) (by omega) rfl rfl rfl rfl rfl rfl rfl (by decide)
end Go.Proofs.YtpphageokplgoaaGreat.CtD
namespace Go.Proofs.YtpphageokplgoaaGreat.CtD
open Go Go.CT CtF CtR
theorem renC_kf (r : Nat → Nat) : ∀ c : C, kf c = true → renC r c = c
 | .v _, _ | .isl _ _, _ | .z, _ | .unk, _ | .eptr _, _ | .met _ _, _ => rfl
 | .msl _ _ _ _, h | .ptr _ _, h | .clo _ _, h => by simp [kf] at h
theorem renCs_kf (r : Nat → Nat) (cs : List C) (h : ∀ c ∈ cs, kf c = true) : renCs r cs = cs := by
 rw [renCs_eq]
 conv => rhs; rw [← List.map_id cs]
 exact List.map_congr_left fun c hc => renC_kf r c (h c hc)
theorem renCs_stC (r : Nat → Nat) (l : List St1) : renCs r (stC l) = stC l := renCs_kf r _ (stC_kf l)
theorem l2Copy (p : Pg) (d : Nat) (hv : p.vars.length ≤ 1000) (ha : p.arrays.length ≤ 1000) (hb : p.body.length ≤ 1000) (hs : ∀ s ∈ p.body, SmS d s) : DC Tryz.prog 76 [.agg p.cells] []
 (fun r h => r = .agg [.msl 0 1 0 p.vars.length, .msl 1 1 0 p.arrays.length, .msl 2 11 0 p.body.length] ∧ h = [some (p.vars.map I64), some (p.arrays.map I64), some (stC p.body)]) := by
 have hmx := mx_eq
 have hcb := l2CopyBlockOwn d p.body (by omega) hs
 generalize hR : (fun (r : D) (h : List (Option (List C))) => r = .agg [.msl 0 1 0 p.vars.length, .msl 1 1 0 p.arrays.length, .msl 2 11 0 p.body.length] ∧ h = [some (p.vars.map I64), some (p.arrays.map I64), some (stC p.body)]) = R
 obtain ⟨vs, ar, bd⟩ := p
 have hv : vs.length ≤ 1000 := hv
 have ha : ar.length ≤ 1000 := ha
 have hb : bd.length ≤ 1000 := hb
 have hfl : (bd.map St1.cells).flatten = stC bd := rfl
 refine dcZ Tryz.func76 ?_
 simp (maxSteps := 9999999) only [go_sem, flat_I']
 iterate 2 ((try (refine drvZ Tryz.func76 ?_; simp (maxSteps := 9999999) only [go_sem, flat_I'])); (try ((with_reducible refine And.intro ?_ ?_) <;> (repeat' with_reducible apply And.intro) <;> try exact sd)))
 refine XK.callG [] hcb ok122 (fun i' x h => by simp at h) (hbT ()) (fun d h' ⟨_, e⟩ => by subst e; simp) ?_ (fun _ => ⟨by kernel_rfl, _, _, ⟨rfl, rfl⟩, by simp⟩)
 rintro _ _ ⟨rfl, rfl⟩ _
 iterate 3 ((try (refine drvZ Tryz.func76 ?_; simp (maxSteps := 9999999) only [go_sem, flat_I', renCs_stC])); (try ((with_reducible refine And.intro ?_ ?_) <;> (repeat' with_reducible apply And.intro) <;> try exact sd)))
 refine RetOb.ofQ (fun j => if j = 0 then some 320 else if j = 1 then some 576 else if j = 2 then some 768 else none) [] (.agg [.msl 0 1 0 vs.length, .msl 1 1 0 ar.length, .msl 2 11 0 bd.length]) [some (vs.map I64), some (ar.map I64), some (stC bd)] ?_ (by rw [← hR]; exact ⟨rfl, rfl⟩) (by simp)
 simp [enumL, hOf, DM, DMs, CM, CMs, HpOK, LowOK, upd, CMs_I]
 exact CMs.kf (stC_kf _)
end Go.Proofs.YtpphageokplgoaaGreat.CtD
