/- Contracts of functions of the program, one behind the other, as plain data: what each call returns and which blocks it leaves. -/
import Derived.Test.YtpphageokplgoaaGreatVFacts
import Derived.Test.YtpphageokplgoaaGreatVAj
import Derived.Test.YtpphageokplgoaaGreatVAk
import Derived.Test.YtpphageokplgoaaGreatVAl
import Derived.Test.YtpphageokplgoaaGreatVAm
import Derived.Test.YtpphageokplgoaaGreatVAn
import Derived.Test.YtpphageokplgoaaGreatVAr
import Derived.Test.YtpphageokplgoaaGreatVAs
import Derived.Test.YtpphageokplgoaaGreatVAt
import Derived.Test.YtpphageokplgoaaGreatVAu
import Derived.Test.YtpphageokplgoaaGreatVAv
import Derived.Test.YtpphageokplgoaaGreatVAw
import Derived.Test.YtpphageokplgoaaGreatVAx
import Derived.Test.YtpphageokplgoaaGreatVAy
import Derived.Test.YtpphageokplgoaaGreatVAz
import Derived.Test.YtpphageokplgoaaGreatVBa
import Derived.Test.YtpphageokplgoaaGreatVBc
set_option linter.unusedVariables false
set_option linter.unusedSimpArgs false
set_option maxHeartbeats 16000000
set_option maxRecDepth 100000
namespace Go.Proofs.YtpphageokplgoaaGreat.CtD
open Go Go.CT CtF CtR
open CtL (e0 cE vE rdE bE selE hitE asg sto maskE readN readS stoN stoS linK lab1 linE linB linO maskS linI linS linQ linP)
theorem ownP (p : Pg) (q : Pg) (hv : p.vars.length ≤ 1000000) (ha : p.arrays.length ≤ 1000000) (hb : ∀ s ∈ p.body, stmtOK q 5 s = true) (hz : lsize 5 p.body ≤ 1000) : DC Tryz.prog 48 [.agg p.cells] [] (fun r h => r = .agg p.cells ∧ h = []) := by
 have hmx := mx_eq
 have hcv := cloneI p.vars hv
 have hca := cloneI p.arrays ha
 have hos := ownStmts q 5 p.body hb hz
 generalize hR : (fun (r : D) (h : List (Option (List C))) => r = .agg p.cells ∧ h = []) = R
 obtain ⟨vs, ar, bd⟩ := p
 simp only [ints] at hcv hca
 refine dcZ Tryz.func48 ?_
 simp (maxSteps := 9999999) only [go_sem]
 iterate 2 ((try (refine drvZ Tryz.func48 ?_; simp (maxSteps := 9999999) only [go_sem])); (try ((with_reducible refine And.intro ?_ ?_) <;> (repeat' with_reducible apply And.intro) <;> try exact sd)))
 refine XK.callG [] hcv ok66 (fun i' x h => by simp at h) (hbT ()) (fun d h' ⟨_, e⟩ => by subst e; simp) ?_ (fun _ => ⟨by kernel_rfl, _, _, ⟨rfl, rfl⟩, by simp⟩)
 rintro _ _ ⟨rfl, rfl⟩ _
 iterate 2 ((try (refine drvZ Tryz.func48 ?_; simp (maxSteps := 9999999) only [go_sem, renCs_I])); (try ((with_reducible refine And.intro ?_ ?_) <;> (repeat' with_reducible apply And.intro) <;> try exact sd)))
 refine XK.callG [] hca ok66 (fun i' x h => by simp at h) (hbT ()) (fun d h' ⟨_, e⟩ => by subst e; simp) ?_ (fun _ => ⟨by kernel_rfl, _, _, ⟨rfl, rfl⟩, by simp⟩)
 rintro _ _ ⟨rfl, rfl⟩ _
 iterate 4 ((try (refine drvZ Tryz.func48 ?_; simp (maxSteps := 9999999) only [go_sem, renCs_I])); (try ((with_reducible refine And.intro ?_ ?_) <;> (repeat' with_reducible apply And.intro) <;> try exact sd)); (try first | refine XK.p hos ok49 ?_ | refine XK.gp hos ok49 ?_))
 refine RetOb.ofQ (fun _ => none) [256, 448] (.agg (Pg.cells ⟨vs, ar, bd⟩)) [] ?_ (by rw [← hR]; exact ⟨rfl, rfl⟩) (by simp)
 have g3 : ∀ x ∈ St1.cellsL bd, ∀ c ∈ x, kf c = true := fun x hx => by rw [St1.cellsL_eq] at hx; obtain ⟨e, _, rfl⟩ := List.mem_map.1 hx; exact st_kf e
 simp [enumL, DM, DMs, CM, CMs, HpOK, LowOK, Pg.cells, isI, upd, flat_I, kf]
theorem linearizeI (p : Pg) (hok : progOK p = true) : DC Tryz.prog 28 [.agg p.cells] [] (fun r h => r = .tup [.agg (linP p).1.cells, DB (linP p).2] ∧ h = []) := by
 have hmx := mx_eq
 have hln := prog_len hok
 have hbo := body_of hok
 have hlab := labs_of hok
 have hcs := checkFlowI p (by omega) (by omega)
 have hqz := CtL.linQ_sz hok
 have hqa : (linQ p).arrays = p.arrays := rfl
 have hvq := programValidI (linQ p) (by omega) (by rw [hqa]; omega)
 have hcv := cloneI p.vars (by omega)
 have hca := cloneI p.arrays (by omega)
 have hbk := blockI (p := p) (by omega) hlab.2 5 (-1) 0 p.vars p.body (by omega) hbo.1 (by omega) hlab.1 (by omega) (by omega)
 have hBv : (linB (linS p.arrays 5 (-1) 0) p.vars p.body).1 = (linQ p).vars := rfl
 have hBb : (linB (linS p.arrays 5 (-1) 0) p.vars p.body).2 = (linQ p).body := rfl
 rw [hBv, hBb] at hbk
 have how : progOK (linQ p) = true → DC Tryz.prog 48 [.agg (linQ p).cells] [] (fun r h => r = .agg (linQ p).cells ∧ h = []) := fun h => ownP (linQ p) (linQ p) (by omega) (by rw [hqa]; omega) (body_of h).1 (by have := (body_of h).2; omega)
 have hlp : linP p = if fineP flowR p = true ∧ progOK (linQ p) = true then (linQ p, true) else (⟨[], [], []⟩, false) := rfl
 generalize hR : (fun (r : D) (h : List (Option (List C))) => r = .tup [.agg (linP p).1.cells, DB (linP p).2] ∧ h = []) = R
 cases hf : fineP flowR p with
 | false =>
  have hbad := chk_bad hf
  rw [hf, if_neg (by simp)] at hlp
  rw [hlp] at hR
  generalize chkR flowR p = x at *
  obtain ⟨code, at_⟩ := x
  simp only at hbad
  have hne : (code != 0) = true := by simp [hbad]
  obtain ⟨vs, ar, bd⟩ := p
  refine dcZ Tryz.func28 ?_
  simp (maxSteps := 9999999) only [go_sem]
  iterate 5 ((try (refine drvZ Tryz.func28 ?_; simp (maxSteps := 9999999) only [go_sem, hne, hbad])); (try ((with_reducible refine And.intro ?_ ?_) <;> (repeat' with_reducible apply And.intro) <;> try exact sd)); (try first | refine XK.p hcs ok65 ?_ | refine XK.gp hcs ok65 ?_))
  exact RetOb.pg0 (by rw [← hR]; exact ⟨rfl, rfl⟩)
 | true =>
  rw [hf] at hlp
  have hgood := (chk_fine flowR p).2 hf
  generalize chkR flowR p = x at *
  obtain ⟨code, at_⟩ := x
  simp only at hgood
  subst hgood
  generalize hlq : linQ p = q at *
  obtain ⟨vs, ar, bd⟩ := p
  obtain ⟨qv, qa, qb⟩ := q
  obtain rfl : qa = ar := hqa
  simp only [ints] at hcv hca
  refine dcZ Tryz.func28 ?_
  simp (maxSteps := 9999999) only [go_sem]
  iterate 5 ((try (refine drvZ Tryz.func28 ?_; simp (maxSteps := 9999999) only [go_sem, bne_self_eq_false])); (try ((with_reducible refine And.intro ?_ ?_) <;> (repeat' with_reducible apply And.intro) <;> try exact sd)); (try first | refine XK.p hcs ok65 ?_ | refine XK.gp hcs ok65 ?_))
  refine XK.callG [] hcv ok66 (fun i' x h => by simp at h) (hbT ()) (fun d h' ⟨_, e⟩ => by subst e; simp) ?_ (fun _ => ⟨by kernel_rfl, _, _, ⟨rfl, rfl⟩, by simp⟩)
  rintro _ _ ⟨rfl, rfl⟩ _
  iterate 2 ((try (refine drvZ Tryz.func28 ?_; simp (maxSteps := 9999999) only [go_sem, renCs_I])); (try ((with_reducible refine And.intro ?_ ?_) <;> (repeat' with_reducible apply And.intro) <;> try exact sd)))
  refine XK.callG [] hca ok66 (fun i' x h => by simp at h) (hbT ()) (fun d h' ⟨_, e⟩ => by subst e; simp) ?_ (fun _ => ⟨by kernel_rfl, _, _, ⟨rfl, rfl⟩, by simp⟩)
  rintro _ _ ⟨rfl, rfl⟩ _
  iterate 3 ((try (refine drvZ Tryz.func28 ?_; simp (maxSteps := 9999999) only [go_sem, renCs_I])); (try ((with_reducible refine And.intro ?_ ?_) <;> (repeat' with_reducible apply And.intro) <;> try exact sd)))
  refine XK.subQ (r := some) (fz := [1088]) (tl := [(2, .c (.ptr 64 0)), (3, DB false), (6, .c (.ptr 1280 0)), (24, .c (.ptr 1280 0)), (25, .c (.ptr 1280 0)), (27, .c (.isl 11 (St1.cellsL bd)))])
   (hl := [(64, some [.v (.slice none 0 0), .v (.slice none 0 0), .v (.slice none 0 0)]), (1280, some [.msl 896 1 0 vs.length, isI qa, .v (.slice none 0 0)]), (896, some (vs.map I64))]) ?_ ?_
  ·simp (maxSteps := 9999999) only [go_sem, TmOK, DM, DMs, CM, CMs, forall_eq, exists_eq_left, Mq, HpOK, LowOK]
   simp [flat_I, kf, CMs_I]
  refine XK.callG [1280, 896] hbk ok67 (hhpG (by simp [-List.map_append, HH, upd, hOf, hpL, renCs_stC, renCs_I, renCs, renC, rk0, isI])) (hbT ()) (fun d h' ⟨_, e⟩ => by subst e; simp) ?_
  rintro _ _ ⟨rfl, rfl⟩ _
  iterate 3 ((try (refine drvZ Tryz.func28 ?_; simp (maxSteps := 9999999) only [go_sem, renCs_I])); (try ((with_reducible refine And.intro ?_ ?_) <;> (repeat' with_reducible apply And.intro) <;> try exact sd)))
  refine XK.subQ (r := some) (fz := [1664]) (tl := [(2, .c (.ptr 64 0)), (3, DB false), (6, .c (.ptr 1280 0)), (35, .agg (Pg.cells ⟨qv, qa, qb⟩))])
   (hl := [(64, some [.v (.slice none 0 0), .v (.slice none 0 0), .v (.slice none 0 0)]), (1280, some (Pg.cells ⟨qv, qa, qb⟩))]) ?_ ?_
  ·simp (maxSteps := 9999999) only [go_sem, TmOK, DM, DMs, CM, CMs, forall_eq, exists_eq_left, Mq, HpOK, LowOK]
   simp [flat_I, kf, CMs_I]
  cases hq : progOK ⟨qv, qa, qb⟩ with
  | false =>
   rw [hq, if_neg (by simp)] at hlp
   rw [hlp] at hR
   rw [hq] at hvq
   iterate 4 ((try (refine drvZ Tryz.func28 ?_; simp (maxSteps := 9999999) only [go_sem])); (try ((with_reducible refine And.intro ?_ ?_) <;> (repeat' with_reducible apply And.intro) <;> try exact sd)); (try first | refine XK.p hvq ok20 ?_ | refine XK.gp hvq ok20 ?_))
   exact RetOb.pg0 (by rw [← hR]; exact ⟨rfl, rfl⟩)
  | true =>
   rw [hq, if_pos ⟨rfl, rfl⟩] at hlp
   rw [hlp] at hR
   rw [hq] at hvq
   have how := how hq
   iterate 6 ((try (refine drvZ Tryz.func28 ?_; simp (maxSteps := 9999999) only [go_sem])); (try ((with_reducible refine And.intro ?_ ?_) <;> (repeat' with_reducible apply And.intro) <;> try exact sd)); (try first | refine XK.p hvq ok20 ?_ | refine XK.gp hvq ok20 ?_ | refine XK.p how ok48 ?_ | refine XK.gp how ok48 ?_))
   exact RetOb.pgP (by rw [← hR]; exact ⟨rfl, rfl⟩)
end Go.Proofs.YtpphageokplgoaaGreat.CtD
namespace Go.Proofs.YtpphageokplgoaaGreat.CtD
open Go Go.CT CtF CtR
open CtL (extM resM extOK extP resP)
theorem RetOb.mem1 {R : D → List (Option (List C)) → Prop} {m : Mm} {hp : Hp} (hna : m.arrays.length ≤ 2) (h4 : ∀ a ∈ m.arrays, a.length = 4) (hR : R (.agg [.msl 0 1 0 m.vals.length, .isl 1 (m.arrays.map fun a => [isI a])]) [some (m.vals.map I64)])
 (hp0 : hp = hpL (memB 2 m)) : RetOb 0 R (.agg [.msl 0 1 0 m.vals.length, .msl 1 1 0 m.arrays.length]) hp := by
 subst hp0
 obtain ⟨va, arr⟩ := m
 refine RetOb.step (fun j => if j = 0 then some 0 else if j = 1 then some 1 else none) [2, 3] (.agg [.msl 0 1 0 va.length, .msl 1 1 0 arr.length]) [(0, some (va.map I64)), (1, some (arr.map isI))] ?_ ?_
 ·have e3 : ∀ a : List Int, (a.map fun n => [C.v (.int .i64 n)]).flatten = a.map I64 := fun a => flat1 _ a
  match arr, hna, h4 with
  | [], _, h4 => simp [DM, DMs, CM, CMs, HpOK, LowOK, hOf, upd, CMs_I, hdr, memB, hpL]
  | [a], _, h4 =>
   have ha := h4 a (by simp)
   simp [DM, DMs, CM, CMs, HpOK, LowOK, hOf, upd, CMs_I, hdr, memB, hpL, e3, isI, ha, blk0, kf]
  | [a, b], _, h4 =>
   have ha := h4 a (by simp)
   have hb := h4 b (by simp)
   simp [DM, DMs, CM, CMs, HpOK, LowOK, hOf, upd, CMs_I, hdr, memB, hpL, e3, isI, ha, hb, blk0, blk1, kf]
 ·refine RetOb.ofQ (fun j => if j = 0 then some 0 else none) [1] (.agg [.msl 0 1 0 va.length, .isl 1 (arr.map fun a => [isI a])]) [some (va.map I64)] ?_ hR (Nat.zero_le _)
  simp [enumL, DM, DMs, CM, CMs, HpOK, LowOK, hOf, upd, CMs_I, isI, flat_I, kf]
  exact (flat1 isI arr).symm
theorem ownM1 (m : Mm) (hv : m.vals.length ≤ 1000) (ha : m.arrays.length ≤ 2) (h4 : ∀ a ∈ m.arrays, a.length = 4) : DC Tryz.prog 57 [.agg m.cells] [] (fun d h => d = .agg [.msl 0 1 0 m.vals.length, .isl 1 (m.arrays.map fun a => [isI a])] ∧ h = [some (m.vals.map I64)]) :=
 DC.weaken (own m hv ha h4) fun d h' ⟨e1, e2⟩ _ => by subst e1 e2; exact RetOb.mem1 ha h4 ⟨rfl, rfl⟩ rfl
theorem extendsI (p q : Pg) (hp : p.vars.length ≤ 1000) (hp2 : p.arrays.length ≤ 1000) (hq : q.vars.length ≤ 1000) (hq2 : q.arrays.length ≤ 1000) (he : extOK p q = true) : DC Tryz.prog 70 [.agg p.cells, .agg q.cells] [] (fun r h => r = DB true ∧ h = []) := by
 have hmx := mx_eq
 have hvp := programValidI p (by omega) (by omega)
 have hvq := programValidI q (by omega) (by omega)
 have h1 := equalI p.vars (q.vars.take p.vars.length) (by omega)
 have h2 := equalI p.arrays q.arrays (by omega)
 simp only [extOK, Bool.and_eq_true, decide_eq_true_eq] at he
 obtain ⟨⟨⟨⟨e1, e2⟩, e3⟩, e4⟩, e5⟩ := he
 rw [e1] at hvp
 rw [e2] at hvq
 rw [decide_eq_true e4] at h1
 rw [decide_eq_true e5] at h2
 obtain ⟨vs, ar, bd⟩ := p
 obtain ⟨vs', ar', bd'⟩ := q
 simp only at e3 h1 h2 hp hp2 hq hq2
 have e3' : vs.length ≤ vs'.length := by omega
 have g3 := eq_true e3
 simp only [ints, List.map_take] at h1 h2
 refine dcZ Tryz.func70 ?_
 simp (maxSteps := 9999999) only [go_sem]
 iterate 8 ((try (refine drvZ Tryz.func70 ?_; simp (maxSteps := 9999999) only [go_sem, g3, e3, e3', List.map_take])); (try ((with_reducible refine And.intro ?_ ?_) <;> (repeat' with_reducible apply And.intro) <;> try exact sd)); (try first | refine XK.p hvp ok20 ?_ | refine XK.gp hvp ok20 ?_ | refine XK.p hvq ok20 ?_ | refine XK.gp hvq ok20 ?_ | refine XK.p h1 ok54 ?_ | refine XK.gp h1 ok54 ?_ | refine XK.p h2 ok54 ?_ | refine XK.gp h2 ok54 ?_))
 exact RetOb.plain (d := DB true) ⟨rfl, rfl⟩ rfl
theorem mem_facts {p : Pg} {m : Mm} (hp : progOK p = true) (hm : memOK p.vars p.arrays m = true) : m.vals.length = p.vars.length ∧ m.arrays.length = p.arrays.length ∧ m.vals.length ≤ 12 ∧ m.arrays.length ≤ 2 ∧ ∀ a ∈ m.arrays, a.length = 4 := by
 have h := memFits_of (p := p) (m := m) (by rw [hp, hm]; rfl)
 exact ⟨h.nv, h.na, by have := h.nv12; have := h.nv; omega, by have := h.na2; have := h.na; omega, fun a ha => (h.arr a ha).1⟩
theorem extendI (p q : Pg) (m : Mm) (hp : p.vars.length ≤ 1000) (hp2 : p.arrays.length ≤ 1000) (hq : q.vars.length ≤ 1000) (hq2 : q.arrays.length ≤ 1000) (he : extOK p q = true) (hm : memOK p.vars p.arrays m = true) :
 DC Tryz.prog 30 [.agg p.cells, .agg q.cells, .agg m.cells] [] (fun r h => r = .tup [.agg (extM q.vars.length m).cells, DB true] ∧ h = []) := by
 have hmx := mx_eq
 have hx := extendsI p q hp hp2 hq hq2 he
 have him := isMemory p.vars p.arrays m (by omega) (by omega)
 rw [hm] at him
 simp only [extOK, Bool.and_eq_true, decide_eq_true_eq] at he
 obtain ⟨f1, f2, f3, f4, f5⟩ := mem_facts he.1.1.1.1 hm
 have ho := ownM1 m (by omega) f4 f5
 have hle : m.vals.length ≤ q.vars.length := by have := he.1.1.2; omega
 generalize hR : (fun (r : D) (h : List (Option (List C))) => r = .tup [.agg (extM q.vars.length m).cells, DB true] ∧ h = []) = R
 obtain ⟨vs, ar, bd⟩ := p
 obtain ⟨vs', ar', bd'⟩ := q
 obtain ⟨va, arr⟩ := m
 simp only [ints, Mm.cells] at him hle ho f3 hq
 refine dcZ Tryz.func30 ?_
 simp (maxSteps := 9999999) only [go_sem, Mm.cells]
 iterate 6 ((try (refine drvZ Tryz.func30 ?_; simp (maxSteps := 9999999) only [go_sem])); (try ((with_reducible refine And.intro ?_ ?_) <;> (repeat' with_reducible apply And.intro) <;> try exact sd)); (try first | refine XK.p hx ok70 ?_ | refine XK.gp hx ok70 ?_ | refine XK.p him ok71 ?_ | refine XK.gp him ok71 ?_))
 refine XK.callG [] ho ok57 (fun i' x h => by simp at h) (hbT ()) (fun d h' ⟨_, e⟩ => by subst e; simp) ?_
 rintro _ _ ⟨rfl, rfl⟩ _
 ((try (refine drvZ Tryz.func30 ?_; simp (maxSteps := 9999999) only [go_sem, renCs_I])); (try ((with_reducible refine And.intro ?_ ?_) <;> (repeat' with_reducible apply And.intro) <;> try exact sd)))
 refine Go.loopQ (fun i : Nat => [(4, .c (.ptr 64 0)), (6, .c (.ptr 192 0)), (7, DB false), (8, .c (.ptr 1280 0))])
  (fun i => [(64, some (Pg.cells ⟨vs', ar', bd'⟩)), (192, some [.v (.slice none 0 0), .v (.slice none 0 0)]), (1216, some ((va ++ List.replicate i 0).map I64)), (1280, some [.msl 1216 1 0 (va ++ List.replicate i 0).length, .isl 1 (arr.map fun a => [isI a])])])
  4096 (fun i => va.length + i ≤ vs'.length) (fun i => vs'.length - i) ?_ 0 some [] _ (by omega) ?_
 ·intro i hi again
  have hW : (va ++ List.replicate i 0).length = va.length + i := by simp
  have hS : va ++ List.replicate (i + 1) 0 = (va ++ List.replicate i 0) ++ [0] := by rw [List.replicate_succ', List.append_assoc]
  rcases Nat.lt_or_ge (va.length + i) vs'.length with hlt | hge
  ·generalize va ++ List.replicate i 0 = W at *
   have hlt' : W.length < vs'.length := by omega
   refine drvL Tryz.func30 ?_
   simp (maxSteps := 9999999) only [go_sem, hlt']
   iterate 3 ((try (refine drvZ Tryz.func30 ?_; simp (maxSteps := 9999999) only [go_sem, hlt'])); (try ((with_reducible refine And.intro ?_ ?_) <;> (repeat' with_reducible apply And.intro) <;> try exact sd)))
   refine again (i + 1) (fun j => if j = 1216 then some 4736 else some j) [] _ (by omega) (by omega) ?_
   rw [hS]
   simp (maxSteps := 9999999) only [go_sem, TmOK, DM, DMs, CM, CMs, forall_eq, exists_eq_left, Mq, HpOK, LowOK]
   simp
   exact CMs.app (CMs.kf (kf_I W)) (by simp [CMs, CM])
  ·have hE : extM vs'.length ⟨va, arr⟩ = ⟨va ++ List.replicate i 0, arr⟩ := by
    simp only [extM]; rw [show vs'.length - va.length = i from by omega]
   rw [hE] at hR
   clear hE hS again
   generalize va ++ List.replicate i 0 = W at *
   have hn : ¬ W.length < vs'.length := by omega
   refine drvL Tryz.func30 ?_
   simp (maxSteps := 9999999) only [go_sem, hn]
   iterate 3 ((try (refine drvZ Tryz.func30 ?_; simp (maxSteps := 9999999) only [go_sem, hn])); (try ((with_reducible refine And.intro ?_ ?_) <;> (repeat' with_reducible apply And.intro) <;> try exact sd)))
   refine RetOb.ofQ (fun _ => none) [1216] (.tup [.agg (Mm.cells ⟨W, arr⟩), DB true]) [] ?_ (by rw [← hR]; exact ⟨rfl, rfl⟩) (by simp)
   simp [enumL, DM, DMs, CM, CMs, HpOK, LowOK, hOf, upd, Mm.cells, isI, flat_I, kf]
 ·simp (maxSteps := 9999999) only [go_sem, TmOK, DM, DMs, CM, CMs, forall_eq, exists_eq_left, Mq, HpOK, LowOK]
  simp [CMs_I]
end Go.Proofs.YtpphageokplgoaaGreat.CtD
namespace Go.Proofs.YtpphageokplgoaaGreat.CtD
open Go Go.CT CtF CtR
def valR (l : List Ev) : List Int := (rel l).map fun e => e.value
theorem valR_snoc (a : List Ev) (e : Ev) : valR (a ++ [e]) = if e.kind == 4 then valR a ++ [e.value] else valR a := by
 unfold valR; rw [rel_snoc]; split <;> simp
theorem releasedI (p : Pg) (m : Mm) (hl : p.vars.length ≤ mx) (hl2 : p.arrays.length ≤ mx) : DC Tryz.prog 25 [.agg p.cells, .agg m.cells] [] (fun r h => r = .tup [ints (valR (runP p m).2.1), DB (runP p m).2.2] ∧ h = []) := by
 have hmx := mx_eq
 have hra := runProgI p m hl hl2
 have hsm := (runP_sm p m).2.2.2
 have hfl : (runP p m).2.2 = false → (runP p m).2.1 = [] := fun h => by
  unfold runP at h ⊢
  split at h
  ·simp at h
  ·rename_i hq; rw [if_neg hq]
 generalize runP p m = x at *
 obtain ⟨⟨xv, xa⟩, tr, ok⟩ := x
 simp only at hsm hfl
 have hle : ∀ i, (valR (tr.take i)).length ≤ i := fun i => Nat.le_trans (by rw [valR, List.length_map]; exact List.length_filter_le _ _) (by simp; omega)
 generalize hR : (fun (r : D) (h : List (Option (List C))) => r = .tup [ints (valR tr), DB ok] ∧ h = []) = R
 obtain ⟨vs, ar, bd⟩ := p
 obtain ⟨va, arr⟩ := m
 cases ok with
 | false =>
  obtain rfl := hfl rfl
  refine dcZ Tryz.func25 ?_
  simp (maxSteps := 9999999) only [go_sem, Mm.cells]
  iterate 5 ((try (refine drvZ Tryz.func25 ?_; simp (maxSteps := 9999999) only [go_sem, Mm.cells])); (try ((with_reducible refine And.intro ?_ ?_) <;> (repeat' with_reducible apply And.intro) <;> try exact sd)); (try first | refine XK.p hra ok19 ?_ | refine XK.gp hra ok19 ?_))
  refine RetOb.ofQ (fun j => none) [] (.tup [ints (valR []), DB false]) [] ?_ (by rw [← hR]; exact ⟨rfl, rfl⟩) (by simp)
  simp [enumL, hOf, DM, DMs, CM, CMs, HpOK, LowOK, ints, valR, rel, DB]
 | true =>
 refine dcZ Tryz.func25 ?_
 simp (maxSteps := 9999999) only [go_sem, Mm.cells]
 iterate 7 ((try (refine drvZ Tryz.func25 ?_; simp (maxSteps := 9999999) only [go_sem, Mm.cells, trD])); (try ((with_reducible refine And.intro ?_ ?_) <;> (repeat' with_reducible apply And.intro) <;> try exact sd)); (try first | refine XK.p hra ok19 ?_ | refine XK.gp hra ok19 ?_))
 refine Go.loopQ (fun i : Nat => [(7, .c (trD tr)), (9, .c (.msl 67 1 0 (valR (tr.take i)).length)), (21, .c (trD tr)), (22, DI .i64 tr.length), (23, DI .i64 i)]) (fun i => [(67, some ((valR (tr.take i)).map I64))])
  4096 (fun i => i ≤ tr.length) (fun i => tr.length - i) ?_ 0 (fun j => if j = 67 then none else some j) [] _ (Nat.zero_le _) ?_
 ·intro i hi again
  have hli := hle i
  rcases Nat.lt_or_ge i tr.length with hlt | hge
  ·obtain ⟨⟨k, v⟩, hx⟩ : ∃ x, tr[i]? = some x := ⟨tr[i], by simp [hlt]⟩
   have hs : valR (tr.take (i + 1)) = if k == 4 then valR (tr.take i) ++ [v] else valR (tr.take i) := by rw [List.take_add_one, hx]; exact valR_snoc _ _
   generalize valR (tr.take i) = T at *
   by_cases hk : k = 4
   ·subst hk
    simp only [beq_self_eq_true, if_true] at hs
    refine drvL Tryz.func25 ?_
    simp (maxSteps := 9999999) only [go_sem, trD, Mm.cells, Ev.cells, I64, hx, hlt]
    iterate 4 ((try (refine drvZ Tryz.func25 ?_; simp (maxSteps := 9999999) only [go_sem, trD, Mm.cells, Ev.cells, I64, hx, hlt])); (try ((with_reducible refine And.intro ?_ ?_) <;> (repeat' with_reducible apply And.intro) <;> try exact sd)))
    refine again (i + 1) (fun j => if j = 67 then some 4864 else some j) [] _ hlt (by omega) ?_
    simp (maxSteps := 9999999) only [go_sem, TmOK, DM, DMs, CM, CMs, forall_eq, exists_eq_left, Mq, HpOK, LowOK, trD, Mm.cells, hs, List.length_append]
    simp
    exact CMs.app (CMs.kf (kf_I T)) (by simp [CMs, CM])
   ·have e1 : (k == 4) = false := by simp [hk]
    simp only [e1, Bool.false_eq_true, if_false] at hs
    refine drvL Tryz.func25 ?_
    simp (maxSteps := 9999999) only [go_sem, trD, Mm.cells, Ev.cells, I64, hx, hlt, e1, hk]
    iterate 4 ((try (refine drvZ Tryz.func25 ?_; simp (maxSteps := 9999999) only [go_sem, trD, Mm.cells, Ev.cells, I64, hx, hlt, e1, hk])); (try ((with_reducible refine And.intro ?_ ?_) <;> (repeat' with_reducible apply And.intro) <;> try exact sd)))
    refine again (i + 1) some [] _ hlt (by omega) ?_
    simp (maxSteps := 9999999) only [go_sem, TmOK, DM, DMs, CM, CMs, forall_eq, exists_eq_left, Mq, HpOK, LowOK, trD, Mm.cells, hs]
    simp [CMs_I]
  ·have hn : ¬ i < tr.length := by omega
   obtain rfl : i = tr.length := by omega
   refine drvL Tryz.func25 ?_
   simp (maxSteps := 9999999) only [go_sem, trD, Mm.cells, hn, List.take_length]
   iterate 2 ((try (refine drvZ Tryz.func25 ?_; simp (maxSteps := 9999999) only [go_sem, trD, Mm.cells, hn, List.take_length])); (try ((with_reducible refine And.intro ?_ ?_) <;> (repeat' with_reducible apply And.intro) <;> try exact sd)))
   refine RetOb.ofQ (fun j => none) [67] (.tup [ints (valR tr), DB true]) [] ?_ (by rw [← hR]; exact ⟨rfl, rfl⟩) (by simp)
   simp [enumL, hOf, DM, DMs, CM, CMs, HpOK, LowOK, upd, ints, kf, DB]
   exact (flat_I' _).symm
 ·simp (maxSteps := 9999999) only [go_sem, TmOK, DM, DMs, CM, CMs, forall_eq, exists_eq_left, Mq, HpOK, LowOK, trD, Mm.cells]
  simp [valR, rel, CMs]
theorem releasedS (p : Pg) (m : Mm) (hl : p.vars.length ≤ mx) (hl2 : p.arrays.length ≤ mx) (hb : lsize 5 p.body ≤ 1099511627776) : DC Tryz.prog 26 [.agg p.cells, .agg m.cells] [] (fun r h => r = .tup [ints (valR (runP p m).2.1), DB (runP p m).2.2] ∧ h = []) := by
 have hmx := mx_eq
 have hra := runProgS p m hl hl2 hb
 have hsm := (runP_sm p m).2.2.2
 have hfl : (runP p m).2.2 = false → (runP p m).2.1 = [] := fun h => by
  unfold runP at h ⊢
  split at h
  ·simp at h
  ·rename_i hq; rw [if_neg hq]
 generalize runP p m = x at *
 obtain ⟨⟨xv, xa⟩, tr, ok⟩ := x
 simp only at hsm hfl
 have hle : ∀ i, (valR (tr.take i)).length ≤ i := fun i => Nat.le_trans (by rw [valR, List.length_map]; exact List.length_filter_le _ _) (by simp; omega)
 generalize hR : (fun (r : D) (h : List (Option (List C))) => r = .tup [ints (valR tr), DB ok] ∧ h = []) = R
 obtain ⟨vs, ar, bd⟩ := p
 obtain ⟨va, arr⟩ := m
 refine dcZ Tryz.func26 ?_
 simp (maxSteps := 9999999) only [go_sem, Mm.cells]
 iterate 5 ((try (refine drvZ Tryz.func26 ?_; simp (maxSteps := 9999999) only [go_sem, Mm.cells, trD])); (try ((with_reducible refine And.intro ?_ ?_) <;> (repeat' with_reducible apply And.intro) <;> try exact sd)); (try first | refine XK.p hra ok64 ?_ | refine XK.gp hra ok64 ?_))
 refine Go.loopQ (fun i : Nat => [(7, .c (trD tr)), (8, DB ok), (9, .c (.msl 67 1 0 (valR (tr.take i)).length)), (10, DI .i64 i)]) (fun i => [(67, some ((valR (tr.take i)).map I64))])
  4096 (fun i => i ≤ tr.length) (fun i => tr.length - i) ?_ 0 (fun j => if j = 67 then some 960 else some j) [] _ (Nat.zero_le _) ?_
 ·intro i hi again
  have hli := hle i
  rcases Nat.lt_or_ge i tr.length with hlt | hge
  ·obtain ⟨⟨k, v⟩, hx⟩ : ∃ x, tr[i]? = some x := ⟨tr[i], by simp [hlt]⟩
   have hs : valR (tr.take (i + 1)) = if k == 4 then valR (tr.take i) ++ [v] else valR (tr.take i) := by rw [List.take_add_one, hx]; exact valR_snoc _ _
   generalize valR (tr.take i) = T at *
   by_cases hk : k = 4
   ·subst hk
    simp only [beq_self_eq_true, if_true] at hs
    refine drvL Tryz.func26 ?_
    simp (maxSteps := 9999999) only [go_sem, trD, Mm.cells, Ev.cells, I64, hx, hlt]
    iterate 4 ((try (refine drvZ Tryz.func26 ?_; simp (maxSteps := 9999999) only [go_sem, trD, Mm.cells, Ev.cells, I64, hx, hlt])); (try ((with_reducible refine And.intro ?_ ?_) <;> (repeat' with_reducible apply And.intro) <;> try exact sd)))
    refine again (i + 1) (fun j => if j = 67 then some 5184 else some j) [] _ hlt (by omega) ?_
    simp (maxSteps := 9999999) only [go_sem, TmOK, DM, DMs, CM, CMs, forall_eq, exists_eq_left, Mq, HpOK, LowOK, trD, Mm.cells, hs, List.length_append]
    simp
    exact CMs.app (CMs.kf (kf_I T)) (by simp [CMs, CM])
   ·have e1 : (k == 4) = false := by simp [hk]
    simp only [e1, Bool.false_eq_true, if_false] at hs
    refine drvL Tryz.func26 ?_
    simp (maxSteps := 9999999) only [go_sem, trD, Mm.cells, Ev.cells, I64, hx, hlt, e1, hk]
    iterate 4 ((try (refine drvZ Tryz.func26 ?_; simp (maxSteps := 9999999) only [go_sem, trD, Mm.cells, Ev.cells, I64, hx, hlt, e1, hk])); (try ((with_reducible refine And.intro ?_ ?_) <;> (repeat' with_reducible apply And.intro) <;> try exact sd)))
    refine again (i + 1) some [] _ hlt (by omega) ?_
    simp (maxSteps := 9999999) only [go_sem, TmOK, DM, DMs, CM, CMs, forall_eq, exists_eq_left, Mq, HpOK, LowOK, trD, Mm.cells, hs]
    simp [CMs_I]
  ·have hn : ¬ i < tr.length := by omega
   obtain rfl : i = tr.length := by omega
   refine drvL Tryz.func26 ?_
   simp (maxSteps := 9999999) only [go_sem, trD, Mm.cells, hn, List.take_length]
   iterate 2 ((try (refine drvZ Tryz.func26 ?_; simp (maxSteps := 9999999) only [go_sem, trD, Mm.cells, hn, List.take_length])); (try ((with_reducible refine And.intro ?_ ?_) <;> (repeat' with_reducible apply And.intro) <;> try exact sd)))
   refine RetOb.ofQ (fun j => none) [67] (.tup [ints (valR tr), DB ok]) [] ?_ (by rw [← hR]; exact ⟨rfl, rfl⟩) (by simp)
   simp [enumL, hOf, DM, DMs, CM, CMs, HpOK, LowOK, upd, ints, kf, DB]
   exact (flat_I' _).symm
 ·simp (maxSteps := 9999999) only [go_sem, TmOK, DM, DMs, CM, CMs, forall_eq, exists_eq_left, Mq, HpOK, LowOK, trD, Mm.cells]
  simp [valR, rel, CMs]
end Go.Proofs.YtpphageokplgoaaGreat.CtD
