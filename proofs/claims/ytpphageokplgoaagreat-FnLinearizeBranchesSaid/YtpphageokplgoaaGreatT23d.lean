/- For every list of bytes, the Go function FnLinearizeBranches returns true, and its arguments read afterwards as before: the statement FnLinearizeBranchesSaid. -/
import Derived.Test.YtpphageokplgoaaGreatRows
import Derived.WalkKit
import Derived.ProofKit
import Derived.OpenShut
import Derived.ShutString
import Derived.ChangeOld
import Derived.Below
import Derived.SizedLaws
import Derived.Test.YtpphageokplgoaaGreatLX
import Derived.Test.YtpphageokplgoaaGreatLFacts
import Derived.Test.YtpphageokplgoaaGreatLAj
import Derived.Test.YtpphageokplgoaaGreatLAk
import Derived.Test.YtpphageokplgoaaGreatLAl
import Derived.Test.YtpphageokplgoaaGreatLAm
import Derived.Test.YtpphageokplgoaaGreatLAn
import Derived.Test.YtpphageokplgoaaGreatLAo
import Derived.Test.YtpphageokplgoaaGreatLAp
import Derived.Test.YtpphageokplgoaaGreatLAr
import Derived.Test.YtpphageokplgoaaGreatLAs
import Derived.Test.YtpphageokplgoaaGreatLAt
import Derived.Test.YtpphageokplgoaaGreatLAv
import Derived.Test.YtpphageokplgoaaGreatLAx
import Derived.Test.YtpphageokplgoaaGreatLAy
import Derived.Test.YtpphageokplgoaaGreatLBa
import Derived.Test.YtpphageokplgoaaGreatLBb
import Derived.Test.YtpphageokplgoaaGreatLBd
import Derived.Test.YtpphageokplgoaaGreatLBg
set_option linter.unusedVariables false
set_option linter.unusedSimpArgs false
set_option maxHeartbeats 16000000
set_option maxRecDepth 100000
namespace Go.Proofs.YtpphageokplgoaaGreat.CtD
open Go Go.CT CtF CtR
open CtL (linQ linP extM resM extOK extP resP)
theorem lawLB (bs : List Int) (hb : Fits .u8 bs) (hl : bs.length ≤ mx) : DC Tryz.prog 9 [bytesD bs] [] (fun d h => d = DB true ∧ h = []) := by
 have hmx := mx_eq
 have hdr := drawTypedRuns bs hb hl 0 1 (by decide)
 unfold bytesD
 unfold bytesD at hdr
 have ret : ∀ hp : Hp, RetOb 0 (fun d h => d = DB true ∧ h = []) (DB true) hp := fun hp => RetOb.plain (d := DB true) ⟨rfl, rfl⟩ rfl
 generalize hRR : (fun (d : D) (h : List (Option (List C))) => d = DB true ∧ h = []) = R at ret ⊢
 by_cases hbig : 1048576 < bs.length
 ·have hz : ((1048576 : Int) < (bs.length : Int)) = True := eq_true (by omega)
  refine dcZ Tryz.func9 ?_
  simp (maxSteps := 9999999) only [go_sem, hz]
  iterate 3 ((try (refine drvZ Tryz.func9 ?_; simp (maxSteps := 9999999) only [go_sem, hz])); (try ((with_reducible refine And.intro ?_ ?_) <;> (repeat' with_reducible apply And.intro) <;> try exact sd)))
  exact ret _
 have hz : ((1048576 : Int) < (bs.length : Int)) = False := eq_false (by omega)
 refine dcZ Tryz.func9 ?_
 simp (maxSteps := 9999999) only [go_sem, hz]
 iterate 3 ((try (refine drvZ Tryz.func9 ?_; simp (maxSteps := 9999999) only [go_sem, hz])); (try ((with_reducible refine And.intro ?_ ?_) <;> (repeat' with_reducible apply And.intro) <;> try exact sd)))
 refine XK.callG [] hdr ok31 (fun i' x h => by simp at h) (hbT ()) (fun d h' ⟨_, _, _, _, _, _, _, _, e⟩ => by subst e; simp) ?_
 rintro _ _ ⟨p, m, m', rfl, hp, hm, hm', hlo, rfl⟩ _
 have hok := hp.ok
 have hln := prog_len hok
 have hli := linearizeI p hok
 have hls := linearizeS p hok
 have hfr := releaseFree p (by omega) (by omega)
 have hmo := memOK_of hm
 have hmo' := memOK_of hm'
 have hlp : linP p = if fineP flowR p = true ∧ progOK (linQ p) = true then (linQ p, true) else (⟨[], [], []⟩, false) := rfl
 by_cases hc : fineP flowR p = true ∧ progOK (linQ p) = true
 case neg =>
  rw [if_neg hc] at hlp
  rw [hlp] at hli hls
  have hps := programSame ⟨[], [], []⟩ (by simp) (by simp) (by simp) (by simp)
  obtain ⟨vs, ar, bd⟩ := p
  obtain ⟨va, arr⟩ := m
  obtain ⟨va', arr'⟩ := m'
  clear hdr
  iterate 10 ((try (refine drvZ Tryz.func9 ?_; simp (maxSteps := 9999999) only [go_sem, Mm.cells, bne_self_eq_false, List.map_nil])); (try ((with_reducible refine And.intro ?_ ?_) <;> (repeat' with_reducible apply And.intro) <;> try exact sd)); (try first | refine XK.p hli ok28 ?_ | refine XK.gp hli ok28 ?_ | refine XK.p hls ok32 ?_ | refine XK.gp hls ok32 ?_ | refine XK.p hps ok18 ?_ | refine XK.gp hps ok18 ?_ | refine XK.p hfr ok29 ?_ | refine XK.gp hfr ok29 ?_ | refine XK.gs (DB false) ?_))
  exact ret _
 obtain ⟨hf, hq⟩ := hc
 rw [if_pos ⟨hf, hq⟩] at hlp
 rw [hlp] at hli hls
 have hqz := CtL.linQ_sz hok
 have hlq := prog_len hq
 have hqf := (CtL.prog_FS hq).1
 have hps := programSame (linQ p) (by omega) (by omega) (by omega) (sameBody hq)
 have he := CtL.linQ_ext hok hq
 have hct := checkCTI p (by omega) (by omega)
 have hea := extendI p (linQ p) m (by omega) (by omega) (by omega) (by omega) he hmo
 have hra := runProgI (linQ p) (extM (linQ p).vars.length m) (by omega) (by omega)
 have hrp := runProgI p m (by omega) (by omega)
 have hsp := runP_sm p m
 have hpa := (CtL.lin_run hf hq hmo).2.2.1
 have hsame : (strictR p).1 = 0 → linQ p = p := fun hc => by
  have hk : (chkR leakR p).1 = 0 := by
   unfold strictR at hc
   rw [if_neg (by simpa using (chk_fine flowR p).2 hf)] at hc; exact hc
  exact CtL.lin_same hf ((chk_fine leakR p).1 hk)
 generalize strictR p = x at *
 obtain ⟨code, at_⟩ := x
 simp only at hsame
 clear hdr
 by_cases hz0 : code = 0
 ·subst hz0
  have hsame := hsame rfl
  have hnv : m.vals.length = p.vars.length := hm.nv
  rw [hsame] at hra hea hli hls hps
  rw [CtL.extM_same hnv] at hra hea
  rw [runP_of hok hmo] at hrp hsp
  simp only at hrp hsp
  clear hlp hpa hra
  generalize runL 5 m p.body = r2 at *
  obtain ⟨vs, ar, bd⟩ := p
  obtain ⟨va, arr⟩ := m
  obtain ⟨va', arr'⟩ := m'
  obtain ⟨⟨w1, w2⟩, t2⟩ := r2
  simp only at hrp hsp
  have hts := traceSame t2 t2 (by omega)
  rw [trSame_refl] at hts
  iterate 26 ((try (refine drvZ Tryz.func9 ?_; simp (maxSteps := 9999999) only [go_sem, Mm.cells, trD, bne_self_eq_false])); (try ((with_reducible refine And.intro ?_ ?_) <;> (repeat' with_reducible apply And.intro) <;> try exact sd)); (try first | refine XK.p hli ok28 ?_ | refine XK.gp hli ok28 ?_ | refine XK.p hls ok32 ?_ | refine XK.gp hls ok32 ?_ | refine XK.p hps ok18 ?_ | refine XK.gp hps ok18 ?_ | refine XK.p hea ok30 ?_ | refine XK.gp hea ok30 ?_ | refine XK.p hrp ok19 ?_ | refine XK.gp hrp ok19 ?_ | refine XK.p hct ok35 ?_ | refine XK.gp hct ok35 ?_ | refine XK.p hts ok22 ?_ | refine XK.gp hts ok22 ?_))
  exact ret _
 ·have g1 : (code = 0) = False := eq_false hz0
  have g2 : (code != 0) = true := by simp [hz0]
  rw [hpa] at hra
  rw [runP_of hok hmo] at hrp
  simp only at hra hrp
  generalize runL 5 (extM (linQ p).vars.length m) (linQ p).body = r1 at *
  generalize runL 5 m p.body = r2 at *
  generalize extM (linQ p).vars.length m = ma at *
  clear hlp hpa hsame
  generalize linQ p = q at *
  obtain ⟨vs, ar, bd⟩ := p
  obtain ⟨va, arr⟩ := m
  obtain ⟨va', arr'⟩ := m'
  obtain ⟨qv, qa, qb⟩ := q
  obtain ⟨xa, xr⟩ := ma
  obtain ⟨⟨u1, u2⟩, t1⟩ := r1
  obtain ⟨⟨w1, w2⟩, t2⟩ := r2
  simp only at hra hrp
  iterate 26 ((try (refine drvZ Tryz.func9 ?_; simp (maxSteps := 9999999) only [go_sem, Mm.cells, trD, bne_self_eq_false, g1, g2])); (try ((with_reducible refine And.intro ?_ ?_) <;> (repeat' with_reducible apply And.intro) <;> try exact sd)); (try first | refine XK.p hli ok28 ?_ | refine XK.gp hli ok28 ?_ | refine XK.p hls ok32 ?_ | refine XK.gp hls ok32 ?_ | refine XK.p hps ok18 ?_ | refine XK.gp hps ok18 ?_ | refine XK.p hea ok30 ?_ | refine XK.gp hea ok30 ?_ | refine XK.p hra ok19 ?_ | refine XK.gp hra ok19 ?_ | refine XK.p hrp ok19 ?_ | refine XK.gp hrp ok19 ?_ | refine XK.p hct ok35 ?_ | refine XK.gp hct ok35 ?_ | refine XK.gs (DB false) ?_))
  exact ret _
end Go.Proofs.YtpphageokplgoaaGreat.CtD
namespace Go.Proofs.YtpphageokplgoaaGreat.fnLinearizeBranches
open Go.ChangeShapes Go.WideShapes Go.ChangeAt Go.RowKit
open Go.ChangeMaps (open_string shut_string)
theorem own : ownKnob Tryz.prog.godebug = none := by kernel_rfl
theorem laidOut : laidOutB Tryz.prog = true := by kernel_rfl
theorem bytes5 : Tryz.prog.bytesOf 5 = 1 := by kernel_rfl
theorem lifted (os : Os) (started : os.Started) (H : Type) (enc : TypeId × Value → H) :
 ReturnsInHanded {} Tryz.checked os 9 .any (Rows.fnLinearizeBranchesSpec.pre6 enc Tryz.prog Tryz.f9 Rows.fnLinearizeBranchesRow.domain false) (Rows.fnLinearizeBranchesSpec.post enc Tryz.prog Tryz.f9 false true false false) := by
 refine returnsInHanded_of_change_sized (C := Tryz.checked) own started (by kernel_rfl) Tryz.func9
  (ChangeSpec.witness6 (enc := enc) (C := Tryz.checked) false ⟨#[], #[.slice none 0 0], []⟩ 8 (by kernel_rfl) (by kernel_rfl) (by kernel_rfl) (by kernel_rfl)) ?_
 intro W base args ds gs before hval0 hW hcnd hsz0 _
 have hval : ∀ (j : Nat) t v, Tryz.f9.params[j]? = some t → args[j]? = some v → Value.okWide Tryz.prog W .any base t v := hval0
 have hsz : (DataW.weightsEach Tryz.prog (Tryz.f9.params.toList ++ Rows.fnLinearizeBranchesSpec.plain.varTypes Tryz.prog) (ds ++ gs)).all (· ≤ reachBytes) = true := hsz0
 have hW' := hW
 obtain ⟨p, q, hA0, hV, rfl, hfz, hnd⟩ := hW
 have hA : DataW.TrodAll enc Tryz.prog W 0 (fun _ => true) true Tryz.f9.params.toList args.toList ds p := hA0
 rw [Tryz.params9] at hA hval hsz
 obtain ⟨v0, vs0, d0, ds0, p0, q0, hargs, rfl, rfl, h0, r0⟩ := trodAll_cons hA
 obtain ⟨rfl, rfl, rfl⟩ := trodAll_nil r0
 obtain rfl : args = #[v0] := by cases args; simp_all
 obtain ⟨rfl, rfl⟩ := trodVars_none hV
 obtain ⟨a0, len0, cap0, rfl⟩ := okWide_slice Tryz.underlying22 (hval 0 22 v0 rfl rfl)
 have k0 := h0
 have lt0 : ∀ x ∈ p0, x.block < W.heap.size := by obtain ⟨m, hm⟩ := k0; exact DataW.trod_lt m _ _ _ hm
 obtain ⟨z0, w0, m0⟩ : ∃ zs, Go.CT.IsRow .u8 W a0 len0 cap0 zs ∧ len0 ≤ Go.CT.mx := by
  obtain ⟨fuel, hf⟩ := h0
  rcases open_ints Tryz.underlying22 Tryz.underlying5 (by kernel_rfl) hf with ⟨hcs, _⟩ | ⟨x, l, c, zs, hcs, _, hl, hm, hz, hx, hcell, hwz⟩
  ·simp [Value.cells] at hcs
   obtain ⟨rfl, rfl, rfl⟩ := hcs
   exact ⟨[], .inl ⟨rfl, rfl, rfl, rfl⟩, Nat.zero_le _⟩
  ·simp [Value.cells] at hcs
   obtain ⟨rfl, rfl, rfl⟩ := hcs
   simp only [Prod.mk.injEq] at hx
   obtain ⟨rfl, rfl⟩ := hx
   have hz' : zs.length = cap0 := by simpa using hz
   have := sized_slice hsz (j := 0) (t := 22) (e := 5) rfl rfl Tryz.underlying22
   rw [bytes5] at this
   simp only [lits, List.length_map, List.length_take, List.length_drop, reachBytes] at this
   have hmx := Go.CT.mx_eq
   exact ⟨zs, .inr ⟨_, rfl, hl, hz', hcell, hwz⟩, by omega⟩
 clear hA0 hval0 hsz0
 have hr0 := fun s => w0.rd (s := s) m0
 refine (Go.CT.DC.below (CtD.lawLB (z0.take len0) (hr0 fun _ => none).2.1 (by rw [(hr0 fun _ => none).2.2]; exact m0)) fun s => .one (hr0 s).1).mono fun e W' ⟨he, bel⟩ => ?_
 subst he
 exact ⟨_, rfl, _, _, _, [], _, [], hW', trodAll_mk1 (shut_bool Tryz.underlying4 _), (trodAll_cons_mk (Below.trod laidOut (by kernel_rfl) (of_decide_eq_true (by kernel_rfl)) k0 bel lt0) trodAll_mk0), rfl, bel.frame _, fun h => by cases h⟩
theorem hfn : Tryz.pinned.checked.prog.funcNamed Rows.fnLinearizeBranchesRow.func = some 9 := by kernel_rfl
theorem hcl : joinedFacts Tryz.pinned.checked.prog 9 Tryz.f9 Rows.fnLinearizeBranchesSpec Rows.fnLinearizeBranchesRow = true := by kernel_rfl
theorem hin : Tryz.f9.isInstance Tryz.pinned.checked.prog Rows.fnLinearizeBranchesRow.origin Rows.fnLinearizeBranchesRow.targs := of_decide_eq_true (by kernel_rfl)
theorem hwr : Tryz.f9.isWrapper Tryz.pinned.checked.prog Rows.fnLinearizeBranchesRow.wrapper Rows.fnLinearizeBranchesRow.mainSum := by unfold Func.isWrapper; first | (rw [if_pos (by decide +kernel)]; kernel_rfl) | (rw [if_neg (by decide +kernel)]; exact ⟨rfl, rfl⟩)
theorem over : Rows.fnLinearizeBranchesRow.holds Tryz.pinned (OpenSpec.ofChange Rows.fnLinearizeBranchesSpec) :=
 OpenClaim.holds_of_wide 9 Tryz.f9 rfl rfl rfl rfl rfl rfl rfl ⟨rfl, rfl, rfl, rfl, rfl⟩ rfl rfl rfl rfl rfl hfn Tryz.func9 hcl hin hwr
  (fun os started H enc _ => lifted os started H enc)
theorem proved : Rows.FnLinearizeBranchesSaid := over
#print axioms proved
end Go.Proofs.YtpphageokplgoaaGreat.fnLinearizeBranches
