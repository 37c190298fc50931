/- Contracts of functions of the program, one behind the other, as plain data: what each call returns and which blocks it leaves. -/
import Derived.Test.YtmagbjbanpgmhaaFacts
import Derived.Test.YtmagbjbanpgmhaaAj
import Derived.Test.YtmagbjbanpgmhaaAk
import Derived.Test.YtmagbjbanpgmhaaAn
import Derived.Test.YtmagbjbanpgmhaaAo
import Derived.Test.YtmagbjbanpgmhaaAq
import Derived.Test.YtmagbjbanpgmhaaAr
import Derived.Test.YtmagbjbanpgmhaaAs
import Derived.Test.YtmagbjbanpgmhaaAt
import Derived.Test.YtmagbjbanpgmhaaAv
import Derived.Test.YtmagbjbanpgmhaaAy
import Derived.Test.YtmagbjbanpgmhaaAw
set_option linter.unusedVariables false
set_option linter.unusedSimpArgs false
set_option maxHeartbeats 16000000
set_option maxRecDepth 100000
namespace Go.Proofs.Ytmagbjbanpgmhaa.CtD
set_option pp.maxSteps 300000
set_option pp.deepTerms true
open Go Go.CT CtF CtR

theorem lawTD (bs : List Int) (hb : Fits .u8 bs) (hl : bs.length ≤ mx) : DC Try.prog 5 [bytesD bs] [] (fun d h => d = DB true ∧ h = []) := by
  have hmx := mx_eq
  have hdr := drawOneInput bs hb hl
  unfold bytesD
  unfold bytesD at hdr
  have ret : ∀ hp : Hp, RetOb 0 (fun d h => d = DB true ∧ h = []) (DB true) hp := fun hp => RetOb.plain (d := DB true) ⟨rfl, rfl⟩ rfl
  generalize hRR : (fun (d : D) (h : List (Option (List C))) => d = DB true ∧ h = []) = R at ret ⊢
  by_cases hbig : 1048576 < bs.length
  · have hz : ((1048576 : Int) < (bs.length : Int)) = True := eq_true (by omega)
    refine dcZ Try.func5 ?_
    simp (maxSteps := 9999999) only [go_sem, hz]
    iterate 2 ((try (refine drvZ Try.func5 ?_; simp (maxSteps := 9999999) only [go_sem, hz])); (try ((with_reducible refine And.intro ?_ ?_) <;> (repeat' with_reducible apply And.intro) <;> try exact sd)))
    exact ret _
  have hz : ((1048576 : Int) < (bs.length : Int)) = False := eq_false (by omega)
  refine dcZ Try.func5 ?_
  simp (maxSteps := 9999999) only [go_sem, hz]
  iterate 2 ((try (refine drvZ Try.func5 ?_; simp (maxSteps := 9999999) only [go_sem, hz])); (try ((with_reducible refine And.intro ?_ ?_) <;> (repeat' with_reducible apply And.intro) <;> try exact sd)))
  refine XK.callG [] hdr ok14 (fun i' x h => by simp at h) (hbT ()) (fun d h' ⟨_, _, _, _, _, _, _, _, _, _, e⟩ => by subst e; simp) ?_
  rintro _ _ ⟨p, a, b, k, rfl, hp, ha, hbm, hk, hone, rfl⟩ _
  have hln := prog_len hp.ok
  have hra := runProgI p a (by omega) (by omega)
  have hrb := runProgI p b (by omega) (by omega)
  have hsa := runP_sm p a
  have hsb := runP_sm p b
  have hpa := runP_of (p := p) (m := a) hp.ok (memOK_of ha)
  have hpb := runP_of (p := p) (m := b) hp.ok (memOK_of hbm)
  obtain ⟨w, hw⟩ : ∃ w, p.vars.length + p.arrays.length = w := ⟨_, rfl⟩
  have hw14 : w ≤ 14 := by omega
  have hdp := dep_run hw hw14 hp.ok (by rw [← hw]; exact hk) hone
  rw [hw] at hk
  have hti := traceDependsI p hw hw14 (by omega) hp.ok
  have hts := traceDependsS p hw hw14 (by omega) hp.smP hp.ok
  have hcb := ctBoolsR (bl w (depP p).tr) (by rw [bl_len]; omega)
  have hbk : (bl w (depP p).tr)[k]? = some ((depP p).tr.testBit k) := by simp [bl, hk]
  have hbln := bl_len w (depP p).tr
  have hag := hdp.2
  rw [hpa] at hra hsa
  rw [hpb] at hrb hsb
  generalize (depP p).tr.testBit k = g at *
  generalize (depP p).tr = tr at *
  simp only at hra hrb hsa hsb
  generalize runL 5 a p.body = ra at *
  generalize runL 5 b p.body = rb at *
  obtain ⟨⟨vx, ax⟩, t1⟩ := ra
  obtain ⟨⟨vy, ay⟩, t2⟩ := rb
  simp only at hra hrb hsa hsb hag
  obtain ⟨vs, ar, bd⟩ := p
  obtain ⟨va, aa⟩ := a
  obtain ⟨vb, ab⟩ := b
  clear hdr hdp
  cases g with
  | true =>
    iterate 12 ((try (refine drvZ Try.func5 ?_; simp (maxSteps := 9999999) only [go_sem, Mm.cells, hbk, hbln, hk, boolsD])); (try ((with_reducible refine And.intro ?_ ?_) <;> (repeat' with_reducible apply And.intro) <;> try exact sd)); (try first | refine XK.p hti ok15 ?_ | refine XK.gp hti ok15 ?_ | refine XK.p hts ok17 ?_ | refine XK.gp hts ok17 ?_ | refine XK.p hcb ok16 ?_ | refine XK.gp hcb ok16 ?_))
    exact ret _
  | false =>
    obtain rfl := hag rfl
    have hsm := traceSame t1 t1 (by omega)
    rw [trSame_refl] at hsm
    iterate 16 ((try (refine drvZ Try.func5 ?_; simp (maxSteps := 9999999) only [go_sem, Mm.cells, trD, hbk, hbln, hk, boolsD])); (try ((with_reducible refine And.intro ?_ ?_) <;> (repeat' with_reducible apply And.intro) <;> try exact sd)); (try first | refine XK.p hti ok15 ?_ | refine XK.gp hti ok15 ?_ | refine XK.p hts ok17 ?_ | refine XK.gp hts ok17 ?_ | refine XK.p hcb ok16 ?_ | refine XK.gp hcb ok16 ?_ | refine XK.p hra ok18 ?_ | refine XK.gp hra ok18 ?_ | refine XK.p hrb ok18 ?_ | refine XK.gp hrb ok18 ?_ | refine XK.p hsm ok19 ?_ | refine XK.gp hsm ok19 ?_))
    exact ret _
end Go.Proofs.Ytmagbjbanpgmhaa.CtD

namespace Go.Proofs.Ytmagbjbanpgmhaa.CtD
open Go Go.CT CtF CtR

theorem lawRD (bs : List Int) (hb : Fits .u8 bs) (hl : bs.length ≤ mx) : DC Try.prog 6 [bytesD bs] [] (fun d h => d = DB true ∧ h = []) := by
  have hmx := mx_eq
  have hdr := drawOneInput bs hb hl
  unfold bytesD
  unfold bytesD at hdr
  have ret : ∀ hp : Hp, RetOb 0 (fun d h => d = DB true ∧ h = []) (DB true) hp := fun hp => RetOb.plain (d := DB true) ⟨rfl, rfl⟩ rfl
  generalize hRR : (fun (d : D) (h : List (Option (List C))) => d = DB true ∧ h = []) = R at ret ⊢
  by_cases hbig : 1048576 < bs.length
  · have hz : ((1048576 : Int) < (bs.length : Int)) = True := eq_true (by omega)
    refine dcZ Try.func6 ?_
    simp (maxSteps := 9999999) only [go_sem, hz]
    iterate 2 ((try (refine drvZ Try.func6 ?_; simp (maxSteps := 9999999) only [go_sem, hz])); (try ((with_reducible refine And.intro ?_ ?_) <;> (repeat' with_reducible apply And.intro) <;> try exact sd)))
    exact ret _
  have hz : ((1048576 : Int) < (bs.length : Int)) = False := eq_false (by omega)
  refine dcZ Try.func6 ?_
  simp (maxSteps := 9999999) only [go_sem, hz]
  iterate 2 ((try (refine drvZ Try.func6 ?_; simp (maxSteps := 9999999) only [go_sem, hz])); (try ((with_reducible refine And.intro ?_ ?_) <;> (repeat' with_reducible apply And.intro) <;> try exact sd)))
  refine XK.callG [] hdr ok14 (fun i' x h => by simp at h) (hbT ()) (fun d h' ⟨_, _, _, _, _, _, _, _, _, _, e⟩ => by subst e; simp) ?_
  rintro _ _ ⟨p, a, b, k, rfl, hp, ha, hbm, hk, hone, rfl⟩ _
  have hln := prog_len hp.ok
  have hra := runProgI p a (by omega) (by omega)
  have hrb := runProgI p b (by omega) (by omega)
  have hsa := runP_sm p a
  have hsb := runP_sm p b
  have hpa := runP_of (p := p) (m := a) hp.ok (memOK_of ha)
  have hpb := runP_of (p := p) (m := b) hp.ok (memOK_of hbm)
  obtain ⟨w, hw⟩ : ∃ w, p.vars.length + p.arrays.length = w := ⟨_, rfl⟩
  have hw14 : w ≤ 14 := by omega
  have hdp := dep_run hw hw14 hp.ok (by rw [← hw]; exact hk) hone
  rw [hw] at hk
  have hri := releaseDependsI p hw hw14 (by omega) hp.ok
  have hrs := releaseDependsS p hw hw14 (by omega) hp.smP hp.ok
  have hti := traceDependsI p hw hw14 (by omega) hp.ok
  have hcb := ctBoolsR (bl w (depP p).re) (by rw [bl_len]; omega)
  have hbk : (bl w (depP p).tr)[k]? = some ((depP p).tr.testBit k) := by simp [bl, hk]
  have hbt : ∀ i, i < w → (bl w (depP p).tr)[i]? = some ((depP p).tr.testBit i) := fun i h => by simp [bl, h]
  have hbr : ∀ i, i < w → (bl w (depP p).re)[i]? = some ((depP p).re.testBit i) := fun i h => by simp [bl, h]
  have hbln := bl_len w (depP p).tr
  have hrln := bl_len w (depP p).re
  have hrt := dep_rel hw hw14
  unfold RT at hrt
  have hag := hdp.2
  rw [hpa] at hra hsa
  rw [hpb] at hrb hsb
  generalize (depP p).tr = tr at *
  generalize (depP p).re = re at *
  simp only at hra hrb hsa hsb
  generalize runL 5 a p.body = ra at *
  generalize runL 5 b p.body = rb at *
  obtain ⟨⟨vx, ax⟩, t1⟩ := ra
  obtain ⟨⟨vy, ay⟩, t2⟩ := rb
  simp only at hra hrb hsa hsb hag
  have hc1 := ctReleases t1 (by omega)
  have hc2 := ctReleases t2 (by omega)
  have hrl := List.length_filter_le (fun e : Ev => e.kind == 4) t1
  have hrl : (rel t1).length ≤ t1.length := hrl
  obtain ⟨vs, ar, bd⟩ := p
  obtain ⟨va, aa⟩ := a
  obtain ⟨vb, ab⟩ := b
  clear hdr hdp
  iterate 6 ((try (refine drvZ Try.func6 ?_; simp (maxSteps := 9999999) only [go_sem, Mm.cells, hrln, boolsD])); (try ((with_reducible refine And.intro ?_ ?_) <;> (repeat' with_reducible apply And.intro) <;> try exact sd)); (try first | refine XK.p hri ok20 ?_ | refine XK.gp hri ok20 ?_ | refine XK.p hrs ok21 ?_ | refine XK.gp hrs ok21 ?_ | refine XK.p hcb ok16 ?_ | refine XK.gp hcb ok16 ?_ | refine XK.p hti ok15 ?_ | refine XK.gp hti ok15 ?_))
  refine Go.loopQ (fun i : Nat => [(3, .c (.ptr 704 0)), (4, .c (.ptr 768 0)), (5, .c (.ptr 832 0)), (6, DI .i64 k), (7, .c (boolsD (bl w re))), (8, .c (boolsD (bl w tr))), (9, DI .i64 i)])
    (fun i => [(704, some (Pg.cells ⟨vs, ar, bd⟩)), (768, some (Mm.cells ⟨va, aa⟩)), (832, some (Mm.cells ⟨vb, ab⟩))]) 8192 (fun i => i ≤ w) (fun i => w - i) ?_ 0 some [] _ (Nat.zero_le _) ?_
  · intro i hi again
    rcases Nat.lt_or_ge i w with hlt | hge
    · have hbt := hbt i hlt
      have hbr := hbr i hlt
      have hrt := hrt i
      generalize tr.testBit i = g1 at *
      generalize re.testBit i = g2 at *
      cases g2 with
      | false =>
        refine drvL Try.func6 ?_
        simp (maxSteps := 9999999) only [go_sem, Mm.cells, hrln, hbln, boolsD, hlt, hbt, hbr]
        iterate 4 ((try (refine drvZ Try.func6 ?_; simp (maxSteps := 9999999) only [go_sem, Mm.cells, hrln, hbln, boolsD, hlt, hbt, hbr])); (try ((with_reducible refine And.intro ?_ ?_) <;> (repeat' with_reducible apply And.intro) <;> try exact sd)))
        refine again (i + 1) some [] _ hlt (by omega) ?_
        simp (maxSteps := 9999999) only [go_sem, TmOK, DM, DMs, CM, CMs, forall_eq, exists_eq_left, Mq, HpOK, LowOK, Mm.cells, boolsD]
        try simp
      | true =>
        obtain rfl := hrt rfl
        refine drvL Try.func6 ?_
        simp (maxSteps := 9999999) only [go_sem, Mm.cells, hrln, hbln, boolsD, hlt, hbt, hbr]
        iterate 4 ((try (refine drvZ Try.func6 ?_; simp (maxSteps := 9999999) only [go_sem, Mm.cells, hrln, hbln, boolsD, hlt, hbt, hbr])); (try ((with_reducible refine And.intro ?_ ?_) <;> (repeat' with_reducible apply And.intro) <;> try exact sd)))
        refine again (i + 1) some [] _ hlt (by omega) ?_
        simp (maxSteps := 9999999) only [go_sem, TmOK, DM, DMs, CM, CMs, forall_eq, exists_eq_left, Mq, HpOK, LowOK, Mm.cells, boolsD]
        try simp
    · have hn : ¬ i < w := by omega
      clear again hbt hbr hrt
      generalize tr.testBit k = g at *
      cases g with
      | true =>
        refine drvL Try.func6 ?_
        simp (maxSteps := 9999999) only [go_sem, Mm.cells, hrln, boolsD, hn]
        iterate 12 ((try (refine drvZ Try.func6 ?_; simp (maxSteps := 9999999) only [go_sem, Mm.cells, trD, hrln, hbln, boolsD, hn, hbk, hk])); (try ((with_reducible refine And.intro ?_ ?_) <;> (repeat' with_reducible apply And.intro) <;> try exact sd)); (try first | refine XK.p hra ok18 ?_ | refine XK.gp hra ok18 ?_ | refine XK.p hrb ok18 ?_ | refine XK.gp hrb ok18 ?_ | refine XK.gs (DB false) ?_))
        exact ret _
      | false =>
        obtain rfl := hag rfl
        have hsm := traceSame (rel t1) (rel t1) (by omega)
        rw [trSame_refl] at hsm
        refine drvL Try.func6 ?_
        simp (maxSteps := 9999999) only [go_sem, Mm.cells, hrln, boolsD, hn]
        iterate 12 ((try (refine drvZ Try.func6 ?_; simp (maxSteps := 9999999) only [go_sem, Mm.cells, trD, hrln, hbln, boolsD, hn, hbk, hk])); (try ((with_reducible refine And.intro ?_ ?_) <;> (repeat' with_reducible apply And.intro) <;> try exact sd)); (try first | refine XK.p hra ok18 ?_ | refine XK.gp hra ok18 ?_ | refine XK.p hrb ok18 ?_ | refine XK.gp hrb ok18 ?_ | refine XK.p hc1 ok22 ?_ | refine XK.gp hc1 ok22 ?_ | refine XK.p hc2 ok22 ?_ | refine XK.gp hc2 ok22 ?_ | refine XK.p hsm ok19 ?_ | refine XK.gp hsm ok19 ?_))
        exact ret _
  · simp (maxSteps := 9999999) only [go_sem, TmOK, DM, DMs, CM, CMs, forall_eq, exists_eq_left, Mq, HpOK, LowOK, Mm.cells, boolsD]
    try simp
end Go.Proofs.Ytmagbjbanpgmhaa.CtD

namespace Go.Proofs.Ytmagbjbanpgmhaa.CtD
set_option pp.maxSteps 300000
set_option pp.deepTerms true
open Go Go.CT CtF CtR

theorem lawDO (bs : List Int) (hb : Fits .u8 bs) (hl : bs.length ≤ mx) : DC Try.prog 7 [bytesD bs] [] (fun d h => d = DB true ∧ h = []) := by
  have hmx := mx_eq
  have hdr := drawOneInput bs hb hl
  unfold bytesD
  unfold bytesD at hdr
  have ret : ∀ hp : Hp, RetOb 0 (fun d h => d = DB true ∧ h = []) (DB true) hp := fun hp => RetOb.plain (d := DB true) ⟨rfl, rfl⟩ rfl
  generalize hRR : (fun (d : D) (h : List (Option (List C))) => d = DB true ∧ h = []) = R at ret ⊢
  by_cases hbig : 1048576 < bs.length
  · have hz : ((1048576 : Int) < (bs.length : Int)) = True := eq_true (by omega)
    refine dcZ Try.func7 ?_
    simp (maxSteps := 9999999) only [go_sem, hz]
    iterate 2 ((try (refine drvZ Try.func7 ?_; simp (maxSteps := 9999999) only [go_sem, hz])); (try ((with_reducible refine And.intro ?_ ?_) <;> (repeat' with_reducible apply And.intro) <;> try exact sd)))
    exact ret _
  have hz : ((1048576 : Int) < (bs.length : Int)) = False := eq_false (by omega)
  refine dcZ Try.func7 ?_
  simp (maxSteps := 9999999) only [go_sem, hz]
  iterate 2 ((try (refine drvZ Try.func7 ?_; simp (maxSteps := 9999999) only [go_sem, hz])); (try ((with_reducible refine And.intro ?_ ?_) <;> (repeat' with_reducible apply And.intro) <;> try exact sd)))
  refine XK.callG [] hdr ok14 (fun i' x h => by simp at h) (hbT ()) (fun d h' ⟨_, _, _, _, _, _, _, _, _, _, e⟩ => by subst e; simp) ?_
  rintro _ _ ⟨p, a, b, k, rfl, hp, ha, hbm, hk, hone, rfl⟩ _
  have hln := prog_len hp.ok
  have hra := runProgI p a (by omega) (by omega)
  have hrb := runProgI p b (by omega) (by omega)
  have hsa := runP_sm p a
  have hsb := runP_sm p b
  have hpa := runP_of (p := p) (m := a) hp.ok (memOK_of ha)
  have hpb := runP_of (p := p) (m := b) hp.ok (memOK_of hbm)
  obtain ⟨w, hw⟩ : ∃ w, p.vars.length + p.arrays.length = w := ⟨_, rfl⟩
  have hw14 : w ≤ 14 := by omega
  have hdp := dep_run hw hw14 hp.ok (by rw [← hw]; exact hk) hone
  rw [hw] at hk
  have hdi := dependsOnI p hw hw14 (by omega) hp.ok
  have hds := dependsOnS p hw hw14 (by omega) hp.smP hp.ok
  have hXo := depP_ok p hw hw14
  have hcr := ctRowsR w (depP p).sets hw14 (by rw [hXo.len]; omega)
  have hmx1 := memFits_of (p := p) (m := (runL 5 a p.body).1) (by rw [hp.ok, runP_out hp.ok (memOK_of ha)]; rfl)
  have hmx2 := memFits_of (p := p) (m := (runL 5 b p.body).1) (by rw [hp.ok, runP_out hp.ok (memOK_of hbm)]; rfl)
  have hag := hdp.1
  have hXl := hXo.len
  rw [hpa] at hra hsa
  rw [hpb] at hrb hsb
  generalize (depP p).sets = xs at *
  simp only at hra hrb hsa hsb
  generalize runL 5 a p.body = ra at *
  generalize runL 5 b p.body = rb at *
  obtain ⟨⟨vx, ax⟩, t1⟩ := ra
  obtain ⟨⟨vy, ay⟩, t2⟩ := rb
  have hbk : ∀ i, (bl w (dat xs i))[k]? = some (bt k xs i) := fun i => by simp [bl, hk, bt]
  have hv1 := hmx1.nv
  have hv2 := hmx2.nv
  have ha1 := hmx1.na
  have ha2 := hmx2.na
  have har := hmx1.arr
  have hval := hag.val
  have harr := hag.arr
  simp only at hra hrb hsa hsb hval harr hv1 hv2 ha1 ha2 har
  clear hdr hdp hXo hag hmx1 hmx2
  obtain ⟨vs, ar, bd⟩ := p
  obtain ⟨va, aa⟩ := a
  obtain ⟨vb, ab⟩ := b
  have hw : vs.length + ar.length = w := hw
  simp only at hv1 hv2 ha1 ha2 hval harr
  have hbln : ∀ i, (bl w (dat xs i)).length = w := fun i => bl_len _ _
  iterate 10 ((try (refine drvZ Try.func7 ?_; simp (maxSteps := 9999999) only [go_sem, Mm.cells, trD, hXl, rowsD])); (try ((with_reducible refine And.intro ?_ ?_) <;> (repeat' with_reducible apply And.intro) <;> try exact sd)); (try first | refine XK.p hdi ok10 ?_ | refine XK.gp hdi ok10 ?_ | refine XK.p hds ok12 ?_ | refine XK.gp hds ok12 ?_ | refine XK.p hcr ok11 ?_ | refine XK.gp hcr ok11 ?_ | refine XK.p hra ok18 ?_ | refine XK.gp hra ok18 ?_ | refine XK.p hrb ok18 ?_ | refine XK.gp hrb ok18 ?_))
  refine Go.loopQ (fun i : Nat => [(3, .c (.ptr 704 0)), (6, DI .i64 k), (7, .c (rowsD w xs)), (8, .c (.ptr 2112 0)), (10, DB true), (11, .c (.ptr 2816 0)), (13, DB true), (14, DI .i64 i)])
    (fun i => [(704, some (Pg.cells ⟨vs, ar, bd⟩)), (2112, some (Mm.cells ⟨vx, ax⟩)), (2816, some (Mm.cells ⟨vy, ay⟩))]) 8192 (fun i => i ≤ w) (fun i => w - i) ?_ 0 some [] _ (Nat.zero_le _) ?_
  · intro i hi again
    rcases Nat.lt_or_ge i w with hlt | hge
    · have hr : (xs.map fun N => [boolsD (bl w N)])[i]? = some [.isl 1 ((bl w (dat xs i)).map fun b => [BC b])] := rows_at (by omega)
      have hbk := hbk i
      have hval := hval i
      have harr : vs.length ≤ i → bt k xs i = false → ax[i - vs.length]? = ay[i - vs.length]? := fun h1 h2 => harr (i - vs.length) (by rw [Nat.add_sub_cancel' h1]; exact h2)
      have hbln := hbln i
      generalize bt k xs i = g at *
      generalize dat xs i = q at *
      cases g with
      | true =>
        refine drvL Try.func7 ?_
        simp (maxSteps := 9999999) only [go_sem, Mm.cells, hXl, hbln, rowsD, hlt]
        iterate 3 ((try (refine drvZ Try.func7 ?_; simp (maxSteps := 9999999) only [go_sem, Mm.cells, hXl, hbln, rowsD, hlt, hr, hbk, hk])); (try ((with_reducible refine And.intro ?_ ?_) <;> (repeat' with_reducible apply And.intro) <;> try exact sd)))
        refine again (i + 1) some [] _ hlt (by omega) ?_
        simp (maxSteps := 9999999) only [go_sem, TmOK, DM, DMs, CM, CMs, forall_eq, exists_eq_left, Mq, HpOK, LowOK, Mm.cells, rowsD]
        try simp
      | false =>
        by_cases hnv : i < vs.length
        · have hval := hval hnv rfl
          obtain ⟨x, hx⟩ : ∃ x, vx[i]? = some x := ⟨vx[i]'(by omega), by simp⟩
          have hy : vy[i]? = some x := by rw [← hval]; exact hx
          have hix : i < vx.length := by omega
          have hiy : i < vy.length := by omega
          have hle : decide ((vs.length : Int) ≤ (i : Int)) = false := by simp; omega
          have hle2 : ((vs.length : Int) ≤ (i : Int)) = False := eq_false (by omega)
          have hi0 : ((i : Int) - (vs.length : Int)).toNat = 0 := by omega
          have hal : ax.length = ay.length := by omega
          match ax, ay, hal with
          | [], [], _ =>
            have hx0 : ([] : List (List Int))[0]? = none := rfl
            refine drvL Try.func7 ?_
            simp (maxSteps := 9999999) only [go_sem, Mm.cells, hXl, hbln, rowsD, hlt]
            iterate 8 ((try (refine drvZ Try.func7 ?_; simp (maxSteps := 9999999) only [go_sem, Mm.cells, hXl, hbln, rowsD, hlt, hr, hbk, hk, hnv, hx, hy, hix, hiy, bne_self_eq_false, hle, hle2, hi0, hx0, List.map_nil])); (try ((with_reducible refine And.intro ?_ ?_) <;> (repeat' with_reducible apply And.intro) <;> try exact sd)); (try first | refine XK.gs (DB false) ?_))
            refine again (i + 1) some [] _ hlt (by omega) ?_
            simp (maxSteps := 9999999) only [go_sem, TmOK, DM, DMs, CM, CMs, forall_eq, exists_eq_left, Mq, HpOK, LowOK, Mm.cells, rowsD]
            try simp
          | ca :: ra, cb :: rb, _ =>
            refine drvL Try.func7 ?_
            simp (maxSteps := 9999999) only [go_sem, Mm.cells, hXl, hbln, rowsD, hlt]
            iterate 8 ((try (refine drvZ Try.func7 ?_; simp (maxSteps := 9999999) only [go_sem, Mm.cells, hXl, hbln, rowsD, hlt, hr, hbk, hk, hnv, hx, hy, hix, hiy, bne_self_eq_false, hle, hle2, hi0])); (try ((with_reducible refine And.intro ?_ ?_) <;> (repeat' with_reducible apply And.intro) <;> try exact sd)); (try first | refine XK.gs (DB false) ?_))
            refine again (i + 1) some [] _ hlt (by omega) ?_
            simp (maxSteps := 9999999) only [go_sem, TmOK, DM, DMs, CM, CMs, forall_eq, exists_eq_left, Mq, HpOK, LowOK, Mm.cells, rowsD]
            try simp
        · have harr := harr (by omega) rfl
          have hjl : i - vs.length < ax.length := by omega
          have hjl2 : i - vs.length < ay.length := by omega
          obtain ⟨z, hz1⟩ : ∃ z, ax[i - vs.length]? = some z := ⟨ax[i - vs.length], by simp [hjl]⟩
          have hz2 : ay[i - vs.length]? = some z := by rw [← harr]; exact hz1
          have h4 := (har z (List.mem_of_getElem? hz1)).1
          have hct := ctInts z z (by omega)
          have hdc : decide (z = z) = true := by simp
          rw [hdc] at hct
          have hi4 : ((i : Int) - (vs.length : Int)).toNat = i - vs.length := by omega
          refine drvL Try.func7 ?_
          simp (maxSteps := 9999999) only [go_sem, Mm.cells, hXl, hbln, rowsD, hlt]
          have htb : tbool Try.prog 3 = false := by kernel_rfl
          have hxn : vx[i]? = none := List.getElem?_eq_none (by omega)
          have hyn : vy[i]? = none := List.getElem?_eq_none (by omega)
          have hle : decide ((vs.length : Int) ≤ (i : Int)) = true := by simp; omega
          have hle2 : ((vs.length : Int) ≤ (i : Int)) = True := eq_true (by omega)
          iterate 8 ((try (refine drvZ Try.func7 ?_; simp (maxSteps := 9999999) only [go_sem, Mm.cells, hXl, hbln, rowsD, hlt, hr, hbk, hk, hnv, hz1, hz2, hi4, hjl, hjl2, htb, hxn, hyn, hle, hle2, bne_self_eq_false])); (try ((with_reducible refine And.intro ?_ ?_) <;> (repeat' with_reducible apply And.intro) <;> try exact sd)); (try first | refine XK.p hct ok23 ?_ | refine XK.gp hct ok23 ?_))
          refine again (i + 1) some [] _ hlt (by omega) ?_
          simp (maxSteps := 9999999) only [go_sem, TmOK, DM, DMs, CM, CMs, forall_eq, exists_eq_left, Mq, HpOK, LowOK, Mm.cells, rowsD]
          try simp
    · have hn : ¬ i < w := by omega
      have hwe : ((w : Int) = (vs.length : Int) + (ar.length : Int)) = True := eq_true (by omega)
      have hwb : ((w : Int) == (vs.length : Int) + (ar.length : Int)) = true := by simp; omega
      refine drvL Try.func7 ?_
      simp (maxSteps := 9999999) only [go_sem, Mm.cells, hXl, hbln, rowsD, hn, hwe, hwb]
      iterate 5 ((try (refine drvZ Try.func7 ?_; simp (maxSteps := 9999999) only [go_sem, Mm.cells, hXl, hbln, rowsD, hn, hwe, hwb])); (try ((with_reducible refine And.intro ?_ ?_) <;> (repeat' with_reducible apply And.intro) <;> try exact sd)))
      exact ret _
  · simp (maxSteps := 9999999) only [go_sem, TmOK, DM, DMs, CM, CMs, forall_eq, exists_eq_left, Mq, HpOK, LowOK, Mm.cells, rowsD]
    try simp
end Go.Proofs.Ytmagbjbanpgmhaa.CtD
