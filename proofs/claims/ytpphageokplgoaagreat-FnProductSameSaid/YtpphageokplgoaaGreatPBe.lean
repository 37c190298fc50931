/- Contracts of functions of the program, one behind the other, as plain data: what each call returns and which blocks it leaves. -/
import Derived.Test.YtpphageokplgoaaGreatPFacts
import Derived.Test.YtpphageokplgoaaGreatPAj
import Derived.Test.YtpphageokplgoaaGreatPAiF
import Derived.Test.YtpphageokplgoaaGreatPAl
import Derived.Test.YtpphageokplgoaaGreatPAm
import Derived.Test.YtpphageokplgoaaGreatPAo
import Derived.Test.YtpphageokplgoaaGreatPAr
import Derived.Test.YtpphageokplgoaaGreatPAs
import Derived.Test.YtpphageokplgoaaGreatPAt
import Derived.Test.YtpphageokplgoaaGreatPAx
import Derived.Test.YtpphageokplgoaaGreatPAy
import Derived.Test.YtpphageokplgoaaGreatPBb
import Derived.Test.YtpphageokplgoaaGreatPBc
import Derived.Test.YtpphageokplgoaaGreatPBd
import Derived.Test.YtpphageokplgoaaGreatPAn
import Derived.Test.YtpphageokplgoaaGreatPAz
import Derived.Test.YtpphageokplgoaaGreatPAp
import Derived.Test.YtpphageokplgoaaGreatPAu
import Derived.Test.YtpphageokplgoaaGreatPAw
import Derived.Test.YtpphageokplgoaaGreatPBa
import Derived.Test.YtpphageokplgoaaGreatPAq
set_option linter.unusedVariables false
set_option linter.unusedSimpArgs false
set_option maxHeartbeats 16000000
set_option maxRecDepth 100000
namespace Go.Proofs.YtpphageokplgoaaGreat.CtD
open Go Go.CT CtF CtR
open CtL (shE dupS dupL pairP prodP dblOK)
theorem productI (p : Pg) (hok : progOK p = true) : DC Tryz.prog 37 [.agg p.cells] [] (fun r h => r = .tup [.agg (prodP p).1.cells, DB (prodP p).2] ∧ h = []) := by
 have hmx := mx_eq
 have hln := prog_len hok
 have hbo := body_of hok
 have hdb := doubleI p hok
 have hct := checkCTI p (by omega) (by omega)
 have hbk := blockT (p := p) (by omega) (by omega) 5 p.body hbo.1 (by omega)
 have hpb : (pairP p).body = dupL p.vars.length p.arrays.length 5 p.body := rfl
 have hos := ownStmts (pairP p) 5 (pairP p).body (CtL.pair_body hok).1 (by have := (CtL.pair_body hok).2 5; omega)
 have hpv := programValidI (pairP p) (by simp [pairP]; omega) (by simp [pairP]; omega)
 have hpp : prodP p = if dblOK p = true ∧ (strictR p).1 = 0 ∧ progOK (pairP p) = true then (pairP p, true) else (⟨[], [], []⟩, false) := rfl
 generalize hR : (fun (r : D) (h : List (Option (List C))) => r = .tup [.agg (prodP p).1.cells, DB (prodP p).2] ∧ h = []) = R
 rw [← hpb] at hbk
 generalize strictR p = x at *
 obtain ⟨code, at_⟩ := x
 simp only at hct hpp
 cases hd : dblOK p with
 | false =>
  rw [hd, if_neg (by simp)] at hpp
  rw [hpp] at hR
  have hdp : dblP p = ⟨[], [], []⟩ := by unfold dblP; rw [hd, if_neg (by simp)]
  rw [hd, hdp] at hdb
  clear hpv hbk hos
  obtain ⟨vs, ar, bd⟩ := p
  refine dcZ Tryz.func37 ?_
  simp (maxSteps := 9999999) only [go_sem]
  iterate 8 ((try (refine drvZ Tryz.func37 ?_; simp (maxSteps := 9999999) only [go_sem, List.map_nil])); (try ((with_reducible refine And.intro ?_ ?_) <;> (repeat' with_reducible apply And.intro) <;> try exact sd)); (try first | refine XK.p hdb ok81 ?_ | refine XK.gp hdb ok81 ?_))
  exact RetOb.pg0 (by rw [← hR]; exact ⟨rfl, rfl⟩)
 | true =>
  have hdp : dblP p = ⟨p.vars ++ p.vars, p.arrays ++ p.arrays, []⟩ := by unfold dblP; rw [hd, if_pos rfl]
  rw [hd, hdp] at hdb
  by_cases hz0 : code = 0
  case neg =>
   rw [hd, if_neg (fun h => hz0 h.2.1)] at hpp
   rw [hpp] at hR
   have g1 : (code = 0) = False := eq_false hz0
   have g2 : (code != 0) = true := by simp [hz0]
   clear hpv hbk hos
   obtain ⟨vs, ar, bd⟩ := p
   refine dcZ Tryz.func37 ?_
   simp (maxSteps := 9999999) only [go_sem]
   iterate 8 ((try (refine drvZ Tryz.func37 ?_; simp (maxSteps := 9999999) only [go_sem, g1, g2])); (try ((with_reducible refine And.intro ?_ ?_) <;> (repeat' with_reducible apply And.intro) <;> try exact sd)); (try first | refine XK.p hdb ok81 ?_ | refine XK.gp hdb ok81 ?_ | refine XK.p hct ok35 ?_ | refine XK.gp hct ok35 ?_))
   exact RetOb.pg0 (by rw [← hR]; exact ⟨rfl, rfl⟩)
  subst hz0
  have hq1 : (pairP p).vars = p.vars ++ p.vars := rfl
  have hq2 : (pairP p).arrays = p.arrays ++ p.arrays := rfl
  rw [← hq1, ← hq2] at hdb
  generalize hpq : pairP p = q at *
  obtain ⟨vs, ar, bd⟩ := p
  obtain ⟨qv, qa, qb⟩ := q
  simp only at hdb
  cases hq : progOK ⟨qv, qa, qb⟩ with
  | false =>
   rw [hd, hq, if_neg (by simp)] at hpp
   rw [hpp] at hR
   rw [hq] at hpv
   refine dcZ Tryz.func37 ?_
   simp (maxSteps := 9999999) only [go_sem]
   iterate 12 ((try (refine drvZ Tryz.func37 ?_; simp (maxSteps := 9999999) only [go_sem, bne_self_eq_false])); (try ((with_reducible refine And.intro ?_ ?_) <;> (repeat' with_reducible apply And.intro) <;> try exact sd)); (try first | refine XK.p hdb ok81 ?_ | refine XK.gp hdb ok81 ?_ | refine XK.p hct ok35 ?_ | refine XK.gp hct ok35 ?_ | refine XK.p hbk ok82 ?_ | refine XK.gp hbk ok82 ?_ | refine XK.p hos ok49 ?_ | refine XK.gp hos ok49 ?_ | refine XK.p hpv ok20 ?_ | refine XK.gp hpv ok20 ?_))
   exact RetOb.pg0 (by rw [← hR]; exact ⟨rfl, rfl⟩)
  | true =>
   rw [hd, hq, if_pos ⟨rfl, rfl, rfl⟩] at hpp
   rw [hpp] at hR
   rw [hq] at hpv
   refine dcZ Tryz.func37 ?_
   simp (maxSteps := 9999999) only [go_sem]
   iterate 12 ((try (refine drvZ Tryz.func37 ?_; simp (maxSteps := 9999999) only [go_sem, bne_self_eq_false])); (try ((with_reducible refine And.intro ?_ ?_) <;> (repeat' with_reducible apply And.intro) <;> try exact sd)); (try first | refine XK.p hdb ok81 ?_ | refine XK.gp hdb ok81 ?_ | refine XK.p hct ok35 ?_ | refine XK.gp hct ok35 ?_ | refine XK.p hbk ok82 ?_ | refine XK.gp hbk ok82 ?_ | refine XK.p hos ok49 ?_ | refine XK.gp hos ok49 ?_ | refine XK.p hpv ok20 ?_ | refine XK.gp hpv ok20 ?_))
   exact RetOb.pgP (by rw [← hR]; exact ⟨rfl, rfl⟩)
theorem productS (p : Pg) (hok : progOK p = true) : DC Tryz.prog 38 [.agg p.cells] [] (fun r h => r = .tup [.agg (prodP p).1.cells, DB (prodP p).2] ∧ h = []) := by
 have hmx := mx_eq
 have hln := prog_len hok
 have hbo := body_of hok
 have hdb := doubleS p hok
 have hct := checkCTS p (by omega) (by omega) (by omega)
 have hbk := blockD (p := p) (by omega) (by omega) 5 p.body hbo.1 (by omega)
 have hpb : (pairP p).body = dupL p.vars.length p.arrays.length 5 p.body := rfl
 have hpv := programValidS (pairP p) (by simp [pairP]; omega) (by simp [pairP]; omega) (by have := (CtL.pair_body hok).2 5; omega)
 have hpp : prodP p = if dblOK p = true ∧ (strictR p).1 = 0 ∧ progOK (pairP p) = true then (pairP p, true) else (⟨[], [], []⟩, false) := rfl
 generalize hR : (fun (r : D) (h : List (Option (List C))) => r = .tup [.agg (prodP p).1.cells, DB (prodP p).2] ∧ h = []) = R
 rw [← hpb] at hbk
 generalize strictR p = x at *
 obtain ⟨code, at_⟩ := x
 simp only at hct hpp
 cases hd : dblOK p with
 | false =>
  rw [hd, if_neg (by simp)] at hpp
  rw [hpp] at hR
  have hdp : dblP p = ⟨[], [], []⟩ := by unfold dblP; rw [hd, if_neg (by simp)]
  rw [hd, hdp] at hdb
  clear hpv hbk
  obtain ⟨vs, ar, bd⟩ := p
  refine dcZ Tryz.func38 ?_
  simp (maxSteps := 9999999) only [go_sem]
  iterate 8 ((try (refine drvZ Tryz.func38 ?_; simp (maxSteps := 9999999) only [go_sem, List.map_nil])); (try ((with_reducible refine And.intro ?_ ?_) <;> (repeat' with_reducible apply And.intro) <;> try exact sd)); (try first | refine XK.p hdb ok83 ?_ | refine XK.gp hdb ok83 ?_ | refine XK.p hct ok84 ?_ | refine XK.gp hct ok84 ?_ | refine XK.gs (DB false) ?_))
  exact RetOb.pg0 (by rw [← hR]; exact ⟨rfl, rfl⟩)
 | true =>
  have hdp : dblP p = ⟨p.vars ++ p.vars, p.arrays ++ p.arrays, []⟩ := by unfold dblP; rw [hd, if_pos rfl]
  rw [hd, hdp] at hdb
  by_cases hz0 : code = 0
  case neg =>
   rw [hd, if_neg (fun h => hz0 h.2.1)] at hpp
   rw [hpp] at hR
   have g1 : (code = 0) = False := eq_false hz0
   have g2 : (code != 0) = true := by simp [hz0]
   clear hpv hbk
   obtain ⟨vs, ar, bd⟩ := p
   refine dcZ Tryz.func38 ?_
   simp (maxSteps := 9999999) only [go_sem]
   iterate 8 ((try (refine drvZ Tryz.func38 ?_; simp (maxSteps := 9999999) only [go_sem, g1, g2])); (try ((with_reducible refine And.intro ?_ ?_) <;> (repeat' with_reducible apply And.intro) <;> try exact sd)); (try first | refine XK.p hdb ok83 ?_ | refine XK.gp hdb ok83 ?_ | refine XK.p hct ok84 ?_ | refine XK.gp hct ok84 ?_))
   exact RetOb.pg0 (by rw [← hR]; exact ⟨rfl, rfl⟩)
  subst hz0
  have hq1 : (pairP p).vars = p.vars ++ p.vars := rfl
  have hq2 : (pairP p).arrays = p.arrays ++ p.arrays := rfl
  rw [← hq1, ← hq2] at hdb
  generalize hpq : pairP p = q at *
  obtain ⟨vs, ar, bd⟩ := p
  obtain ⟨qv, qa, qb⟩ := q
  simp only at hdb
  cases hq : progOK ⟨qv, qa, qb⟩ with
  | false =>
   rw [hd, hq, if_neg (by simp)] at hpp
   rw [hpp] at hR
   rw [hq] at hpv
   refine dcZ Tryz.func38 ?_
   simp (maxSteps := 9999999) only [go_sem]
   iterate 12 ((try (refine drvZ Tryz.func38 ?_; simp (maxSteps := 9999999) only [go_sem, bne_self_eq_false])); (try ((with_reducible refine And.intro ?_ ?_) <;> (repeat' with_reducible apply And.intro) <;> try exact sd)); (try first | refine XK.p hdb ok83 ?_ | refine XK.gp hdb ok83 ?_ | refine XK.p hct ok84 ?_ | refine XK.gp hct ok84 ?_ | refine XK.p hbk ok85 ?_ | refine XK.gp hbk ok85 ?_ | refine XK.p hpv ok52 ?_ | refine XK.gp hpv ok52 ?_))
   exact RetOb.pg0 (by rw [← hR]; exact ⟨rfl, rfl⟩)
  | true =>
   rw [hd, hq, if_pos ⟨rfl, rfl, rfl⟩] at hpp
   rw [hpp] at hR
   rw [hq] at hpv
   refine dcZ Tryz.func38 ?_
   simp (maxSteps := 9999999) only [go_sem]
   iterate 12 ((try (refine drvZ Tryz.func38 ?_; simp (maxSteps := 9999999) only [go_sem, bne_self_eq_false])); (try ((with_reducible refine And.intro ?_ ?_) <;> (repeat' with_reducible apply And.intro) <;> try exact sd)); (try first | refine XK.p hdb ok83 ?_ | refine XK.gp hdb ok83 ?_ | refine XK.p hct ok84 ?_ | refine XK.gp hct ok84 ?_ | refine XK.p hbk ok85 ?_ | refine XK.gp hbk ok85 ?_ | refine XK.p hpv ok52 ?_ | refine XK.gp hpv ok52 ?_))
   exact RetOb.pgP (by rw [← hR]; exact ⟨rfl, rfl⟩)
end Go.Proofs.YtpphageokplgoaaGreat.CtD
namespace Go.Proofs.YtpphageokplgoaaGreat.CtD
open Go Go.CT CtF CtR
open CtL (shE dupS dupL pairP prodP dblOK pairM spl1 spl2)
theorem ownM2 (m : Mm) (hv : m.vals.length ≤ 1000) (ha : m.arrays.length ≤ 2) (h4 : ∀ a ∈ m.arrays, a.length = 4) : DC Tryz.prog 57 [.agg m.cells] [] (fun d h => d = .agg [.msl 0 1 0 m.vals.length, .msl 1 1 0 m.arrays.length] ∧ h = [some (m.vals.map I64), some (m.arrays.map isI)]) :=
 DC.weaken (own m hv ha h4) fun d h' ⟨e1, e2⟩ _ => by
  subst e1 e2
  obtain ⟨va, arr⟩ := m
  refine RetOb.step (fun j => if j = 0 then some 0 else if j = 1 then some 1 else none) [2, 3] (.agg [.msl 0 1 0 va.length, .msl 1 1 0 arr.length]) [(0, some (va.map I64)), (1, some (arr.map isI))] ?_ ?_
  ·have e3 : ∀ a : List Int, (a.map fun n => [C.v (.int .i64 n)]).flatten = a.map I64 := fun a => flat1 _ a
   match arr, ha, h4 with
   | [], _, h4 => simp [DM, DMs, CM, CMs, HpOK, LowOK, hOf, upd, CMs_I, hdr, memB, hpL]
   | [a], _, h4 =>
    have ha := h4 a (by simp)
    simp [DM, DMs, CM, CMs, HpOK, LowOK, hOf, upd, CMs_I, hdr, memB, hpL, e3, isI, ha, blk0, kf]
   | [a, b], _, h4 =>
    have ha := h4 a (by simp)
    have hb := h4 b (by simp)
    simp [DM, DMs, CM, CMs, HpOK, LowOK, hOf, upd, CMs_I, hdr, memB, hpL, e3, isI, ha, hb, blk0, blk1, kf]
  ·refine RetOb.ofQ some [] (.agg [.msl 0 1 0 va.length, .msl 1 1 0 arr.length]) [some (va.map I64), some (arr.map isI)] ?_ ⟨rfl, rfl⟩ (Nat.zero_le _)
   simp [enumL, DM, DMs, CM, CMs, HpOK, LowOK, hOf, upd, CMs_I, CMs_rows2]
theorem pairMemI (p : Pg) (a b : Mm) (hp : dblOK p = true) (ha : memOK p.vars p.arrays a = true) (hb : memOK p.vars p.arrays b = true) : DC Tryz.prog 39 [.agg p.cells, .agg a.cells, .agg b.cells] [] (fun r h => r = .tup [.agg (pairM a b).cells, DB true] ∧ h = []) := by
 have hmx := mx_eq
 have hok := (CtL.dbl_ok hp).1
 have hln := prog_len hok
 have hdb := doubleI p hok
 rw [hp] at hdb
 have hma := isMemory p.vars p.arrays a (by omega) (by omega)
 have hmb := isMemory p.vars p.arrays b (by omega) (by omega)
 rw [ha] at hma
 rw [hb] at hmb
 obtain ⟨f1, f2, f3, f4, f5⟩ := mem_facts hok ha
 obtain ⟨g1, g2, g3, g4, g5⟩ := mem_facts hok hb
 have hoa := ownM2 a (by omega) f4 f5
 have hob := ownM2 b (by omega) g4 g5
 generalize dblP p = dp at *
 generalize hR : (fun (r : D) (h : List (Option (List C))) => r = .tup [.agg (pairM a b).cells, DB true] ∧ h = []) = R
 obtain ⟨vs, ar, bd⟩ := p
 obtain ⟨va, arr⟩ := a
 obtain ⟨vb, brr⟩ := b
 obtain ⟨dv, da, dbd⟩ := dp
 simp only [ints, Mm.cells] at hma hmb hoa hob f3 f4 g3 g4
 refine dcZ Tryz.func39 ?_
 simp (maxSteps := 9999999) only [go_sem, Mm.cells]
 iterate 7 ((try (refine drvZ Tryz.func39 ?_; simp (maxSteps := 9999999) only [go_sem, Mm.cells])); (try ((with_reducible refine And.intro ?_ ?_) <;> (repeat' with_reducible apply And.intro) <;> try exact sd)); (try first | refine XK.p hdb ok81 ?_ | refine XK.gp hdb ok81 ?_ | refine XK.p hma ok71 ?_ | refine XK.gp hma ok71 ?_ | refine XK.p hmb ok71 ?_ | refine XK.gp hmb ok71 ?_))
 have htb : (vb.map I64).take vb.length = vb.map I64 := List.take_of_length_le (by simp)
 have htr : (brr.map isI).take brr.length = brr.map isI := List.take_of_length_le (by simp)
 have hlb : (vb.map I64).length = vb.length := List.length_map _
 have hlr : (brr.map isI).length = brr.length := List.length_map _
 refine XK.callG [] hoa ok57 (fun i' x h => by simp at h) (hbT ()) (fun d h' ⟨_, e⟩ => by subst e; simp) ?_ (fun _ => ⟨by kernel_rfl, _, _, ⟨rfl, rfl⟩, by simp⟩)
 rintro _ _ ⟨rfl, rfl⟩ _
 iterate 2 ((try (refine drvZ Tryz.func39 ?_; simp (maxSteps := 9999999) only [go_sem, renCs_I, renCs_rows])); (try ((with_reducible refine And.intro ?_ ?_) <;> (repeat' with_reducible apply And.intro) <;> try exact sd)))
 refine XK.callG [] hob ok57 (fun i' x h => by simp at h) (hbT ()) (fun d h' ⟨_, e⟩ => by subst e; simp) ?_ (fun _ => ⟨by kernel_rfl, _, _, ⟨rfl, rfl⟩, by simp⟩)
 rintro _ _ ⟨rfl, rfl⟩ _
 iterate 5 ((try (refine drvZ Tryz.func39 ?_; simp (maxSteps := 9999999) only [go_sem, renCs_I, renCs_rows, htb, htr, hlb, hlr])); (try ((with_reducible refine And.intro ?_ ?_) <;> (repeat' with_reducible apply And.intro) <;> try exact sd)))
 refine RetOb.ofQ (fun _ => none) [2752, 3072] (.tup [.agg (Mm.cells ⟨va ++ vb, arr ++ brr⟩), DB true]) [] ?_ (by rw [← hR]; exact ⟨rfl, rfl⟩) (by simp)
 have e1 : va.map I64 ++ vb.map I64 = (va ++ vb).map I64 := (List.map_append).symm
 have e2 : arr.map isI ++ brr.map isI = (arr ++ brr).map isI := (List.map_append).symm
 have e3 : ((arr ++ brr).map fun a => [isI a]).flatten = (arr ++ brr).map isI := flat1 isI _
 simp only [isI] at e2 e3
 simp [-List.map_append, enumL, DM, DMs, CM, CMs, HpOK, LowOK, hOf, upd, Mm.cells, isI, flat_I, kf, e1, e2, e3]
theorem splitMemI (p : Pg) (m : Mm) (hp : dblOK p = true) (hm : MemFits (pairP p) m) (hmo : memOK (pairP p).vars (pairP p).arrays m = true) : DC Tryz.prog 40 [.agg p.cells, .agg m.cells] [] (fun r h => r = .tup [.agg (spl1 p m).cells, .agg (spl2 p m).cells, DB true] ∧ h = []) := by
 have hmx := mx_eq
 obtain ⟨hok, hd1, hd2⟩ := CtL.dbl_ok hp
 have hln := prog_len hok
 have hdb := doubleI p hok
 have hdp : dblP p = ⟨p.vars ++ p.vars, p.arrays ++ p.arrays, []⟩ := by unfold dblP; rw [hp, if_pos rfl]
 rw [hp, hdp] at hdb
 have hma := isMemory (p.vars ++ p.vars) (p.arrays ++ p.arrays) m (by simp; omega) (by simp; omega)
 rw [show memOK (p.vars ++ p.vars) (p.arrays ++ p.arrays) m = true from hmo] at hma
 have f1 : m.vals.length = p.vars.length + p.vars.length := by rw [hm.nv]; simp [pairP]
 have f2 : m.arrays.length = p.arrays.length + p.arrays.length := by rw [hm.na]; simp [pairP]
 have h4 := fun a ha => (hm.arr a ha).1
 have ho1 := ownM0 (spl1 p m) (by simp [spl1]; omega) (by simp [spl1]; omega) (fun a ha => h4 a (List.mem_of_mem_take ha))
 have ho2 := ownM0 (spl2 p m) (by simp [spl2]; omega) (by simp [spl2]; omega) (fun a ha => h4 a (List.mem_of_mem_drop ha))
 generalize hR : (fun (r : D) (h : List (Option (List C))) => r = .tup [.agg (spl1 p m).cells, .agg (spl2 p m).cells, DB true] ∧ h = []) = R
 clear h4 hdp hmo hm
 obtain ⟨vs, ar, bd⟩ := p
 obtain ⟨va, arr⟩ := m
 simp only at f1 f2
 have l1 : vs.length ≤ va.length := by omega
 have l2 : ar.length ≤ arr.length := by omega
 simp only [ints, Mm.cells, spl1, spl2, isI, List.map_take, List.map_drop] at hma ho1 ho2
 have ht1 : ∀ f : Int → List C, List.take (va.length - vs.length) (List.drop vs.length (List.map f va)) = List.drop vs.length (List.map f va) := fun f => List.take_of_length_le (by simp)
 have ht2 : ∀ f : List Int → List C, List.take (arr.length - ar.length) (List.drop ar.length (List.map f arr)) = List.drop ar.length (List.map f arr) := fun f => List.take_of_length_le (by simp)
 refine dcZ Tryz.func40 ?_
 simp (maxSteps := 9999999) only [go_sem, Mm.cells]
 iterate 12 ((try (refine drvZ Tryz.func40 ?_; simp (maxSteps := 9999999) only [go_sem, Mm.cells, l1, l2, ht1, ht2, List.map_nil])); (try ((with_reducible refine And.intro ?_ ?_) <;> (repeat' with_reducible apply And.intro) <;> try exact sd)); (try first | refine XK.p hdb ok81 ?_ | refine XK.gp hdb ok81 ?_ | refine XK.p hma ok71 ?_ | refine XK.gp hma ok71 ?_ | refine XK.p ho1 ok57 ?_ | refine XK.gp ho1 ok57 ?_ | refine XK.p ho2 ok57 ?_ | refine XK.gp ho2 ok57 ?_))
 refine RetOb.ofQ (fun _ => none) [] (.tup [.agg (Mm.cells (spl1 ⟨vs, ar, bd⟩ ⟨va, arr⟩)), .agg (Mm.cells (spl2 ⟨vs, ar, bd⟩ ⟨va, arr⟩)), DB true]) [] ?_ (by rw [← hR]; exact ⟨rfl, rfl⟩) (by simp)
 simp [enumL, DM, DMs, CM, CMs, HpOK, LowOK, hOf, Mm.cells, isI, spl1, spl2, List.map_take, List.map_drop]
end Go.Proofs.YtpphageokplgoaaGreat.CtD
namespace Go.Proofs.YtpphageokplgoaaGreat.CtD
open Go Go.CT CtF CtR
open CtL (linQ linP)
def okR (bs : List Int) (n k : Nat) (r : D) (h : List (Option (List C))) : Prop := ∃ p : Pg, r = .agg p.cells ∧ progOK p = true ∧ rdL bs n k h
theorem RetOb.okR {bs : List Int} {n k n' : Nat} {R : D → List (Option (List C)) → Prop} (hR : CtD.okR bs n k = R) (p : Pg) {hp : Hp} (h1 : progOK p = true) (h2 : n ≤ n') (h3 : n' ≤ n + k) (h4 : hp 0 = some (some (rdr bs n'))) : RetOb 1 R (.agg p.cells) hp := by
 refine RetOb.keep1 (d := .agg p.cells) (cs := rdr bs n') (by rw [← hR]; exact ⟨p, rfl, h1, n', h2, h3, rfl⟩) h4 (rdr_kf _ _) ?_
 intro c hc
 simp only [Pg.cells, isI, List.mem_cons, List.not_mem_nil, or_false] at hc
 rcases hc with rfl | rfl | rfl <;> rfl
theorem l5Prog (bs : List Int) (n : Nat) (hb : Fits .u8 bs) (hl : bs.length ≤ 2000) (hn : n ≤ 260000000000) : DC Tryz.prog 136 [.c (.ptr 0 0)] [some (rdr bs n)] (okR bs n 4000004) := by
 have hmx := mx_eq
 have hty := fun n h => typed bs n hb hl h
 generalize hR : okR bs n 4000004 = R
 refine dcZ Tryz.func136 ?_
 simp (maxSteps := 9999999) only [go_sem]
 iterate 2 ((try (refine drvZ Tryz.func136 ?_; simp (maxSteps := 9999999) only [go_sem])); (try ((with_reducible refine And.intro ?_ ?_) <;> (repeat' with_reducible apply And.intro) <;> try exact sd)))
 refine Go.loopQ (fun x : Nat × Nat => [(0, .c (.ptr 0 0)), (2, .c (.ptr 1 0)), (3, DI .i64 x.1)]) (fun x => [(0, some (rdr bs x.2)), (1, some [.v (.slice none 0 0), .v (.slice none 0 0), .v (.slice none 0 0)])])
  4096 (fun x => x.1 ≤ 3 ∧ n ≤ x.2 ∧ x.2 ≤ n + x.1 * 1000001) (fun x => 3 - x.1) ?_ (0, n) some [] _ ⟨by simp, by simp, by simp⟩ ?_
 ·rintro ⟨i, n1⟩ ⟨hi, hn1, hn2⟩ again
  simp only at hi hn1 hn2 ⊢
  rcases Nat.lt_or_ge i 3 with hlt | hge
  ·have hz : ((i : Int) < 3) = True := eq_true (by omega)
   refine drvL Tryz.func136 ?_
   simp (maxSteps := 9999999) only [go_sem, hz]
   iterate 2 ((try (refine drvZ Tryz.func136 ?_; simp (maxSteps := 9999999) only [go_sem, hz])); (try ((with_reducible refine And.intro ?_ ?_) <;> (repeat' with_reducible apply And.intro) <;> try exact sd)))
   refine XK.callG [0] (hty n1 (by omega)) ok72 (hhp_one (by simp [upd, hOf, renCs_rdr])) (hbT ()) (fun d h' ⟨_, _, _, _, _, _, e⟩ => by subst e; simp) ?_
   rintro _ _ ⟨p, rfl, hp, n2, hn3, hn4, rfl⟩ _
   have hln := prog_len hp.ok
   have hcs := checkFlowS p (by omega) (by omega) (by have := (body_of hp.ok).2; omega)
   have hok := hp.ok
   generalize chkR flowR p = x at *
   obtain ⟨code, at_⟩ := x
   obtain ⟨vs, ar, bd⟩ := p
   by_cases hz0 : code = 0
   ·subst hz0
    by_cases hbd : 0 < bd.length
    ·have g1 : ((0 : Int) < (bd.length : Int)) = True := eq_true (by omega)
     iterate 7 ((try (refine drvZ Tryz.func136 ?_; simp (maxSteps := 9999999) only [go_sem, renCs_rdr, g1])); (try ((with_reducible refine And.intro ?_ ?_) <;> (repeat' with_reducible apply And.intro) <;> try exact sd)); (try first | refine XK.p hcs ok75 ?_ | refine XK.gp hcs ok75 ?_))
     exact RetOb.okR hR ⟨vs, ar, bd⟩ hok (n' := n2) (by omega) (by omega) rfl
    ·have g1 : ((0 : Int) < (bd.length : Int)) = False := eq_false (by omega)
     iterate 7 ((try (refine drvZ Tryz.func136 ?_; simp (maxSteps := 9999999) only [go_sem, renCs_rdr, g1])); (try ((with_reducible refine And.intro ?_ ?_) <;> (repeat' with_reducible apply And.intro) <;> try exact sd)); (try first | refine XK.p hcs ok75 ?_ | refine XK.gp hcs ok75 ?_))
     refine again (i + 1, n2) some [] _ ⟨by simp only; omega, by simp only; omega, by simp only; omega⟩ (by simp only; omega) ?_
     simp (maxSteps := 9999999) only [go_sem, TmOK, DM, DMs, CM, CMs, forall_eq, exists_eq_left, Mq, HpOK, LowOK]
     simp
     exact CMs.kf (rdr_kf _ _)
   ·have g2 : (code = 0) = False := eq_false hz0
    have g3 : (code == 0) = false := by simp [hz0]
    iterate 7 ((try (refine drvZ Tryz.func136 ?_; simp (maxSteps := 9999999) only [go_sem, renCs_rdr, g2, g3])); (try ((with_reducible refine And.intro ?_ ?_) <;> (repeat' with_reducible apply And.intro) <;> try exact sd)); (try first | refine XK.p hcs ok75 ?_ | refine XK.gp hcs ok75 ?_))
    refine again (i + 1, n2) some [] _ ⟨by simp only; omega, by simp only; omega, by simp only; omega⟩ (by simp only; omega) ?_
    simp (maxSteps := 9999999) only [go_sem, TmOK, DM, DMs, CM, CMs, forall_eq, exists_eq_left, Mq, HpOK, LowOK]
    simp
    exact CMs.kf (rdr_kf _ _)
  ·have hz : ((i : Int) < 3) = False := eq_false (by omega)
   obtain rfl : i = 3 := by omega
   refine drvL Tryz.func136 ?_
   simp (maxSteps := 9999999) only [go_sem, hz]
   iterate 2 ((try (refine drvZ Tryz.func136 ?_; simp (maxSteps := 9999999) only [go_sem, hz])); (try ((with_reducible refine And.intro ?_ ?_) <;> (repeat' with_reducible apply And.intro) <;> try exact sd)))
   refine XK.callG [0] (hty n1 (by omega)) ok72 (hhp_one (by simp [upd, hOf, renCs_rdr])) (hbT ()) (fun d h' ⟨_, _, _, _, _, _, e⟩ => by subst e; simp) ?_
   rintro _ _ ⟨p, rfl, hp, n2, hn3, hn4, rfl⟩ _
   have hok := hp.ok
   obtain ⟨vs, ar, bd⟩ := p
   iterate 3 ((try (refine drvZ Tryz.func136 ?_; simp (maxSteps := 9999999) only [go_sem, renCs_rdr])); (try ((with_reducible refine And.intro ?_ ?_) <;> (repeat' with_reducible apply And.intro) <;> try exact sd)))
   exact RetOb.okR hR ⟨vs, ar, bd⟩ hok (n' := n2) (by omega) (by omega) rfl
 ·simp (maxSteps := 9999999) only [go_sem, TmOK, DM, DMs, CM, CMs, forall_eq, exists_eq_left, Mq, HpOK, LowOK]
  simp
  exact CMs.kf (rdr_kf _ _)
end Go.Proofs.YtpphageokplgoaaGreat.CtD
namespace Go.Proofs.YtpphageokplgoaaGreat.CtD
open Go Go.CT CtF CtR
open CtL (linQ linP)
theorem linP_ok {p : Pg} (h : (linP p).2 = true) : progOK (linP p).1 = true := by
 unfold linP at h ⊢
 split at h
 ·rename_i hc; rw [if_pos hc]; exact hc.2
 ·simp at h
theorem l13Prog (bs : List Int) (n : Nat) (hb : Fits .u8 bs) (hl : bs.length ≤ 2000) (hn : n ≤ 250000000000) : DC Tryz.prog 80 [.c (.ptr 0 0)] [some (rdr bs n)] (okR bs n 6000010) := by
 have hmx := mx_eq
 have h5 := l5Prog bs n hb hl (by omega)
 have h2 := fun n h => l2Program bs n hb hl h
 generalize hR : okR bs n 6000010 = R
 refine dcZ Tryz.func80 ?_
 simp (maxSteps := 9999999) only [go_sem]
 ((try (refine drvZ Tryz.func80 ?_; simp (maxSteps := 9999999) only [go_sem])); (try ((with_reducible refine And.intro ?_ ?_) <;> (repeat' with_reducible apply And.intro) <;> try exact sd)))
 refine XK.callG [0] h5 ok136 (hhp_one (by simp [upd, hpL, renCs_rdr])) (hbT ()) (fun d h' ⟨_, _, _, _, _, _, e⟩ => by subst e; simp) ?_
 rintro _ _ ⟨p, rfl, hp, n1, hn1, hn2, rfl⟩ _
 by_cases h22 : p.arrays.length = 2
 ·have hln := prog_len hp
  obtain ⟨vs, ar, bd⟩ := p
  have g1 : ((ar.length : Int) = 2) = True := eq_true (by simp only at h22; omega)
  have g2 : ((ar.length : Int) == 2) = true := by simp only at h22; simp [h22]
  iterate 3 ((try (refine drvZ Tryz.func80 ?_; simp (maxSteps := 9999999) only [go_sem, renCs_rdr, g1, g2])); (try ((with_reducible refine And.intro ?_ ?_) <;> (repeat' with_reducible apply And.intro) <;> try exact sd)))
  refine XK.callG [0] (h2 n1 (by omega)) ok42 (hhp_one (by simp [upd, hpL, renCs_rdr])) (hbT ()) (fun d h' ⟨_, _, _, _, _, _, e⟩ => by subst e; simp) ?_
  rintro _ _ ⟨p2, rfl, hp2, n2, hn3, hn4, rfl⟩ _
  have hok2 := hp2.ok
  obtain ⟨vs2, ar2, bd2⟩ := p2
  iterate 2 ((try (refine drvZ Tryz.func80 ?_; simp (maxSteps := 9999999) only [go_sem, renCs_rdr])); (try ((with_reducible refine And.intro ?_ ?_) <;> (repeat' with_reducible apply And.intro) <;> try exact sd)))
  have hls := linearizeS ⟨vs2, ar2, bd2⟩ hok2
  have hlk := @linP_ok ⟨vs2, ar2, bd2⟩
  generalize linP ⟨vs2, ar2, bd2⟩ = x at *
  obtain ⟨⟨qv, qa, qb⟩, ok⟩ := x
  simp only at hls hlk
  cases ok with
  | false =>
   iterate 8 ((try (refine drvZ Tryz.func80 ?_; simp (maxSteps := 9999999) only [go_sem, renCs_rdr])); (try ((with_reducible refine And.intro ?_ ?_) <;> (repeat' with_reducible apply And.intro) <;> try exact sd)); (try first | refine XK.p hls ok32 ?_ | refine XK.gp hls ok32 ?_ | refine XK.gs (DI .i64 0) ?_))
   exact RetOb.okR hR ⟨vs2, ar2, bd2⟩ hok2 (n' := n2) (by omega) (by omega) rfl
  | true =>
   have hq := hlk rfl
   have hlq : qv.length ≤ 12 := (prog_len hq).2.1
   by_cases h12 : 2 * qv.length ≤ 12
   ·have g3 : ((2 : Int) * (qv.length : Int) ≤ 12) = True := eq_true (by omega)
    iterate 5 ((try (refine drvZ Tryz.func80 ?_; simp (maxSteps := 9999999) only [go_sem, renCs_rdr, g3])); (try ((with_reducible refine And.intro ?_ ?_) <;> (repeat' with_reducible apply And.intro) <;> try exact sd)); (try first | refine XK.p hls ok32 ?_ | refine XK.gp hls ok32 ?_))
    refine XK.callT 8 true [0] (pick bs n2 4 hb hl (by omega) (by simp only [InK]; omega)) ok43 (hhp_one (by simp [upd, hpL, renCs_rdr])) (hbT ()) (fun d h' ⟨v, _, _, e⟩ => by subst e; simp) ?_
    rintro _ _ ⟨v, rfl, hpv, rfl⟩ _
    by_cases hv : 0 < v
    ·have g4 := eq_true hv
     iterate 4 ((try (refine drvZ Tryz.func80 ?_; simp (maxSteps := 9999999) only [go_sem, renCs_rdr, g4])); (try ((with_reducible refine And.intro ?_ ?_) <;> (repeat' with_reducible apply And.intro) <;> try exact sd)))
     exact RetOb.okR hR ⟨qv, qa, qb⟩ hq (n' := n2 + 1) (by omega) (by omega) rfl
    ·have g4 := eq_false hv
     iterate 4 ((try (refine drvZ Tryz.func80 ?_; simp (maxSteps := 9999999) only [go_sem, renCs_rdr, g4])); (try ((with_reducible refine And.intro ?_ ?_) <;> (repeat' with_reducible apply And.intro) <;> try exact sd)))
     exact RetOb.okR hR ⟨vs2, ar2, bd2⟩ hok2 (n' := n2 + 1) (by omega) (by omega) rfl
   ·have g3 : ((2 : Int) * (qv.length : Int) ≤ 12) = False := eq_false (by omega)
    iterate 8 ((try (refine drvZ Tryz.func80 ?_; simp (maxSteps := 9999999) only [go_sem, renCs_rdr, g3])); (try ((with_reducible refine And.intro ?_ ?_) <;> (repeat' with_reducible apply And.intro) <;> try exact sd)); (try first | refine XK.p hls ok32 ?_ | refine XK.gp hls ok32 ?_ | refine XK.gs (DI .i64 0) ?_))
    exact RetOb.okR hR ⟨vs2, ar2, bd2⟩ hok2 (n' := n2) (by omega) (by omega) rfl
 ·have hln := prog_len hp
  obtain ⟨vs, ar, bd⟩ := p
  have g1 : ((ar.length : Int) = 2) = False := eq_false (by simp only at h22; omega)
  have g2 : ((ar.length : Int) == 2) = false := by simp only at h22; simp; omega
  iterate 4 ((try (refine drvZ Tryz.func80 ?_; simp (maxSteps := 9999999) only [go_sem, renCs_rdr, g1, g2])); (try ((with_reducible refine And.intro ?_ ?_) <;> (repeat' with_reducible apply And.intro) <;> try exact sd)))
  have hls := linearizeS ⟨vs, ar, bd⟩ hp
  have hlk := @linP_ok ⟨vs, ar, bd⟩
  generalize linP ⟨vs, ar, bd⟩ = x at *
  obtain ⟨⟨qv, qa, qb⟩, ok⟩ := x
  simp only at hls hlk
  cases ok with
  | false =>
   iterate 8 ((try (refine drvZ Tryz.func80 ?_; simp (maxSteps := 9999999) only [go_sem, renCs_rdr])); (try ((with_reducible refine And.intro ?_ ?_) <;> (repeat' with_reducible apply And.intro) <;> try exact sd)); (try first | refine XK.p hls ok32 ?_ | refine XK.gp hls ok32 ?_ | refine XK.gs (DI .i64 0) ?_))
   exact RetOb.okR hR ⟨vs, ar, bd⟩ hp (n' := n1) (by omega) (by omega) rfl
  | true =>
   have hq := hlk rfl
   have hlq : qv.length ≤ 12 := (prog_len hq).2.1
   by_cases h12 : 2 * qv.length ≤ 12
   ·have g3 : ((2 : Int) * (qv.length : Int) ≤ 12) = True := eq_true (by omega)
    iterate 5 ((try (refine drvZ Tryz.func80 ?_; simp (maxSteps := 9999999) only [go_sem, renCs_rdr, g3])); (try ((with_reducible refine And.intro ?_ ?_) <;> (repeat' with_reducible apply And.intro) <;> try exact sd)); (try first | refine XK.p hls ok32 ?_ | refine XK.gp hls ok32 ?_))
    refine XK.callT 8 true [0] (pick bs n1 4 hb hl (by omega) (by simp only [InK]; omega)) ok43 (hhp_one (by simp [upd, hpL, renCs_rdr])) (hbT ()) (fun d h' ⟨v, _, _, e⟩ => by subst e; simp) ?_
    rintro _ _ ⟨v, rfl, hpv, rfl⟩ _
    by_cases hv : 0 < v
    ·have g4 := eq_true hv
     iterate 4 ((try (refine drvZ Tryz.func80 ?_; simp (maxSteps := 9999999) only [go_sem, renCs_rdr, g4])); (try ((with_reducible refine And.intro ?_ ?_) <;> (repeat' with_reducible apply And.intro) <;> try exact sd)))
     exact RetOb.okR hR ⟨qv, qa, qb⟩ hq (n' := n1 + 1) (by omega) (by omega) rfl
    ·have g4 := eq_false hv
     iterate 4 ((try (refine drvZ Tryz.func80 ?_; simp (maxSteps := 9999999) only [go_sem, renCs_rdr, g4])); (try ((with_reducible refine And.intro ?_ ?_) <;> (repeat' with_reducible apply And.intro) <;> try exact sd)))
     exact RetOb.okR hR ⟨vs, ar, bd⟩ hp (n' := n1 + 1) (by omega) (by omega) rfl
   ·have g3 : ((2 : Int) * (qv.length : Int) ≤ 12) = False := eq_false (by omega)
    iterate 8 ((try (refine drvZ Tryz.func80 ?_; simp (maxSteps := 9999999) only [go_sem, renCs_rdr, g3])); (try ((with_reducible refine And.intro ?_ ?_) <;> (repeat' with_reducible apply And.intro) <;> try exact sd)); (try first | refine XK.p hls ok32 ?_ | refine XK.gp hls ok32 ?_ | refine XK.gs (DI .i64 0) ?_))
    exact RetOb.okR hR ⟨vs, ar, bd⟩ hp (n' := n1) (by omega) (by omega) rfl
end Go.Proofs.YtpphageokplgoaaGreat.CtD
namespace Go.Proofs.YtpphageokplgoaaGreat.CtD
open Go Go.CT CtF CtR
def prR2 (r : D) (h : List (Option (List C))) : Prop := ∃ (p : Pg) (m m' : Mm), r = .tup [.agg p.cells, .agg m.cells, .agg m'.cells] ∧ progOK p = true ∧ MemFits p m ∧ MemFits p m' ∧ LowM 0 p m m' ∧ h = []
theorem drawProductRuns (bs : List Int) (hb : Fits .u8 bs) (hl : bs.length ≤ mx) : DC Tryz.prog 36 [bytesD bs] [] prR2 := by
 have hmx := mx_eq
 have hop := l17Open bs hl
 have hb' := fits_take hb 2000
 have hl' : (bs.take 2000).length ≤ 2000 := by rw [List.length_take]; omega
 generalize hR : prR2 = R
 generalize hbs : bs.take 2000 = b2 at *
 unfold bytesD
 unfold bytesD at hop
 refine dcZ Tryz.func36 ?_
 simp (maxSteps := 9999999) only [go_sem]
 ((try (refine drvZ Tryz.func36 ?_; simp (maxSteps := 9999999) only [go_sem])); (try ((with_reducible refine And.intro ?_ ?_) <;> (repeat' with_reducible apply And.intro) <;> try exact sd)))
 refine XK.callG [] hop ok41 (fun i' x h => by simp at h) (hbT ()) (fun d h' ⟨_, e⟩ => by subst e; simp) ?_
 rintro _ _ ⟨rfl, rfl⟩ _
 iterate 2 ((try (refine drvZ Tryz.func36 ?_; simp (maxSteps := 9999999) only [go_sem, renCs_rdr])); (try ((with_reducible refine And.intro ?_ ?_) <;> (repeat' with_reducible apply And.intro) <;> try exact sd)))
 have hty := l13Prog b2 0 hb' hl' (by omega)
 refine XK.callG [256] hty ok80 (hhp_one (by simp [upd, renCs_rdr])) (hbT ()) (fun d h' ⟨_, _, _, _, _, _, e⟩ => by subst e; simp) ?_
 rintro _ _ ⟨p, rfl, hp, n1, hn1, hn2, rfl⟩ _
 have hln := prog_len hp
 have hlab := labs_of hp
 have hme := l3Memory b2 n1 p hb' hl' (by omega) ⟨hln.1, hln.2.1⟩ hln.2.2
 have hse := fun n m h1 h2 => secrets b2 n p m hb' hl' h1 h2 hlab.1 hlab.2 0 1 (.inl ⟨rfl, rfl⟩)
 obtain ⟨vs, ar, bd⟩ := p
 iterate 2 ((try (refine drvZ Tryz.func36 ?_; simp (maxSteps := 9999999) only [go_sem, renCs_rdr])); (try ((with_reducible refine And.intro ?_ ?_) <;> (repeat' with_reducible apply And.intro) <;> try exact sd)))
 refine XK.callG [256] hme ok73 (hhp_one (by simp [upd, renCs_rdr])) (hbT ()) (fun d h' ⟨_, _, _, _, _, _, e⟩ => by subst e; simp) ?_
 rintro _ _ ⟨m, rfl, hm, n2, hn3, hn4, rfl⟩ _
 have hse := hse n2 m (by omega) hm
 obtain ⟨va, arr⟩ := m
 iterate 3 ((try (refine drvZ Tryz.func36 ?_; simp (maxSteps := 9999999) only [go_sem, renCs_rdr, Mm.cells])); (try ((with_reducible refine And.intro ?_ ?_) <;> (repeat' with_reducible apply And.intro) <;> try exact sd)))
 refine XK.callG [256] hse ok74 (hhp_one (by simp [upd, renCs_rdr])) (hbT ()) (fun d h' ⟨_, _, _, _, _, _, _, e⟩ => by subst e; simp) ?_ (fun _ => ⟨by kernel_rfl, _, _, ⟨⟨va, arr⟩, rfl, hm, .refl _ _ _, n2, by omega, by omega, rfl⟩, by simp⟩)
 rintro _ _ ⟨m2, rfl, hm2, hlo, n3, hn5, hn6, rfl⟩ _
 obtain ⟨va2, arr2⟩ := m2
 iterate 3 ((try (refine drvZ Tryz.func36 ?_; simp (maxSteps := 9999999) only [go_sem, renCs_rdr, Mm.cells])); (try ((with_reducible refine And.intro ?_ ?_) <;> (repeat' with_reducible apply And.intro) <;> try exact sd)))
 refine RetOb.ofQ (fun _ => none) [] (.tup [.agg (Pg.cells ⟨vs, ar, bd⟩), .agg (Mm.cells ⟨va, arr⟩), .agg (Mm.cells ⟨va2, arr2⟩)]) [] ?_ (by rw [← hR]; exact ⟨_, _, _, rfl, hp, hm, hm2, hlo, rfl⟩) (by simp)
 simp [enumL, DM, DMs, CM, CMs, HpOK, LowOK, hOf, Pg.cells, Mm.cells, isI]
end Go.Proofs.YtpphageokplgoaaGreat.CtD
