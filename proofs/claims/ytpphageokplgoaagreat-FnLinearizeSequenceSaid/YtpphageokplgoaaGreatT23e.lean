/- For every list of bytes (each of the arguments), the Go function FnLinearizeSequence returns true, and its arguments read afterwards as before: the statement FnLinearizeSequenceSaid. -/
import Derived.Test.YtpphageokplgoaaGreatRows
import Derived.WalkKit
import Derived.ProofKit
import Derived.OpenShut
import Derived.ShutString
import Derived.ChangeOld
import Derived.Below
import Derived.SizedLaws
import Derived.Test.YtpphageokplgoaaGreatLX
import Derived.Test.YtpphageokplgoaaGreatLFacts
import Derived.Test.YtpphageokplgoaaGreatLAj
import Derived.Test.YtpphageokplgoaaGreatLAk
import Derived.Test.YtpphageokplgoaaGreatLAl
import Derived.Test.YtpphageokplgoaaGreatLAm
import Derived.Test.YtpphageokplgoaaGreatLAn
import Derived.Test.YtpphageokplgoaaGreatLAo
import Derived.Test.YtpphageokplgoaaGreatLAp
import Derived.Test.YtpphageokplgoaaGreatLAr
import Derived.Test.YtpphageokplgoaaGreatLAs
import Derived.Test.YtpphageokplgoaaGreatLAt
import Derived.Test.YtpphageokplgoaaGreatLAv
import Derived.Test.YtpphageokplgoaaGreatLAx
import Derived.Test.YtpphageokplgoaaGreatLAy
import Derived.Test.YtpphageokplgoaaGreatLBa
import Derived.Test.YtpphageokplgoaaGreatLBb
import Derived.Test.YtpphageokplgoaaGreatLBd
import Derived.Test.YtpphageokplgoaaGreatLBg
set_option linter.unusedVariables false
set_option linter.unusedSimpArgs false
set_option maxHeartbeats 16000000
set_option maxRecDepth 100000
namespace Go.Proofs.YtpphageokplgoaaGreat.CtD
open Go Go.CT CtF CtR
open CtL (linQ linP extM resM extOK extP resP)
theorem lawLS (bs bs2 : List Int) (hb : Fits .u8 bs) (hb2 : Fits .u8 bs2) (hl : bs.length ≤ mx) (hl2 : bs2.length ≤ mx) : DC Tryz.prog 8 [bytesD bs, bytesD bs2] [] (fun d h => d = DB true ∧ h = []) := by
 have hmx := mx_eq
 have hdr := drawTypedRuns bs hb hl 0 1 (by decide)
 unfold bytesD
 unfold bytesD at hdr
 have ret : ∀ hp : Hp, RetOb 0 (fun d h => d = DB true ∧ h = []) (DB true) hp := fun hp => RetOb.plain (d := DB true) ⟨rfl, rfl⟩ rfl
 generalize hRR : (fun (d : D) (h : List (Option (List C))) => d = DB true ∧ h = []) = R at ret ⊢
 by_cases hbig : 1048576 < bs.length
 ·have hz : ((1048576 : Int) < (bs.length : Int)) = True := eq_true (by omega)
  refine dcZ Tryz.func8 ?_
  simp (maxSteps := 9999999) only [go_sem, hz]
  iterate 3 ((try (refine drvZ Tryz.func8 ?_; simp (maxSteps := 9999999) only [go_sem, hz])); (try ((with_reducible refine And.intro ?_ ?_) <;> (repeat' with_reducible apply And.intro) <;> try exact sd)))
  exact ret _
 have hz : ((1048576 : Int) < (bs.length : Int)) = False := eq_false (by omega)
 by_cases hbig2 : 1048576 < bs2.length
 ·have hz2 : ((1048576 : Int) < (bs2.length : Int)) = True := eq_true (by omega)
  refine dcZ Tryz.func8 ?_
  simp (maxSteps := 9999999) only [go_sem, hz, hz2]
  iterate 3 ((try (refine drvZ Tryz.func8 ?_; simp (maxSteps := 9999999) only [go_sem, hz, hz2])); (try ((with_reducible refine And.intro ?_ ?_) <;> (repeat' with_reducible apply And.intro) <;> try exact sd)))
  exact ret _
 have hz2 : ((1048576 : Int) < (bs2.length : Int)) = False := eq_false (by omega)
 refine dcZ Tryz.func8 ?_
 simp (maxSteps := 9999999) only [go_sem, hz, hz2]
 iterate 3 ((try (refine drvZ Tryz.func8 ?_; simp (maxSteps := 9999999) only [go_sem, hz, hz2])); (try ((with_reducible refine And.intro ?_ ?_) <;> (repeat' with_reducible apply And.intro) <;> try exact sd)))
 refine XK.callG [] hdr ok31 (fun i' x h => by simp at h) (hbT ()) (fun d h' ⟨_, _, _, _, _, _, _, _, e⟩ => by subst e; simp) ?_
 rintro _ _ ⟨p, m, m', rfl, hp, hm, hm', hlo, rfl⟩ _
 have hok := hp.ok
 have hln := prog_len hok
 have hli := linearizeI p hok
 have hls := linearizeS p hok
 have hfr := releaseFree p (by omega) (by omega)
 have hmo := memOK_of hm
 have hmo' := memOK_of hm'
 have hlp : linP p = if fineP flowR p = true ∧ progOK (linQ p) = true then (linQ p, true) else (⟨[], [], []⟩, false) := rfl
 by_cases hc : fineP flowR p = true ∧ progOK (linQ p) = true
 case neg =>
  rw [if_neg hc] at hlp
  rw [hlp] at hli hls
  have hps := programSame ⟨[], [], []⟩ (by simp) (by simp) (by simp) (by simp)
  obtain ⟨vs, ar, bd⟩ := p
  obtain ⟨va, arr⟩ := m
  obtain ⟨va', arr'⟩ := m'
  clear hdr
  iterate 10 ((try (refine drvZ Tryz.func8 ?_; simp (maxSteps := 9999999) only [go_sem, Mm.cells, bne_self_eq_false, List.map_nil])); (try ((with_reducible refine And.intro ?_ ?_) <;> (repeat' with_reducible apply And.intro) <;> try exact sd)); (try first | refine XK.p hli ok28 ?_ | refine XK.gp hli ok28 ?_ | refine XK.p hls ok32 ?_ | refine XK.gp hls ok32 ?_ | refine XK.p hps ok18 ?_ | refine XK.gp hps ok18 ?_ | refine XK.p hfr ok29 ?_ | refine XK.gp hfr ok29 ?_ | refine XK.gs (DB false) ?_))
  exact ret _
 obtain ⟨hf, hq⟩ := hc
 rw [if_pos ⟨hf, hq⟩] at hlp
 rw [hlp] at hli hls
 have hqz := CtL.linQ_sz hok
 have hlq := prog_len hq
 have hqf := (CtL.prog_FS hq).1
 have hps := programSame (linQ p) (by omega) (by omega) (by omega) (sameBody hq)
 have he := CtL.linQ_ext hok hq
 have hk1 : bs2.length % (p.body.length + 1) ≤ p.body.length := Nat.le_of_lt_succ (Nat.mod_lt _ (by omega))
 obtain ⟨hff, hqq⟩ := CtL.lin_first hf hq (bs2.length % (p.body.length + 1))
 have hbl := (CtL.prog_FS hok).1
 clear hlp
 generalize hkk : bs2.length % (p.body.length + 1) = k at *
 have hokf := (CtL.fineP_ok hff).1
 have hli2 := linearizeI ⟨p.vars, p.arrays, p.body.take k⟩ hokf
 have hlp2 : linP ⟨p.vars, p.arrays, p.body.take k⟩ = (linQ ⟨p.vars, p.arrays, p.body.take k⟩, true) := if_pos ⟨hff, hqq⟩
 rw [hlp2] at hli2
 have hmo2 : memOK (⟨p.vars, p.arrays, p.body.take k⟩ : Pg).vars (⟨p.vars, p.arrays, p.body.take k⟩ : Pg).arrays m = true := hmo
 have hlf := prog_len hokf
 have hlq2 := prog_len hqq
 have he2 := CtL.linQ_ext hokf hqq
 have hea := extendI ⟨p.vars, p.arrays, p.body.take k⟩ (linQ ⟨p.vars, p.arrays, p.body.take k⟩) m (by simp only; omega) (by simp only; omega) (by omega) (by omega) he2 hmo2
 have hra := runProgI (linQ ⟨p.vars, p.arrays, p.body.take k⟩) (extM (linQ ⟨p.vars, p.arrays, p.body.take k⟩).vars.length m) (by omega) (by omega)
 have hrp := runProgI ⟨p.vars, p.arrays, p.body.take k⟩ m (by simp only; omega) (by simp only; omega)
 have hsp := runP_sm ⟨p.vars, p.arrays, p.body.take k⟩ m
 obtain ⟨_, _, hpa, hre, _⟩ := CtL.lin_run hff hqq hmo2
 obtain ⟨_, hmf, hme⟩ := CtL.lin_sim hff hqq hmo2
 have hout := memOK_of (runL_ok hme (body_of hqq).1).1
 have hrs := restrictI ⟨p.vars, p.arrays, p.body.take k⟩ (linQ ⟨p.vars, p.arrays, p.body.take k⟩) _ (by simp only; omega) (by simp only; omega) (by omega) (by omega) he2 hout
 have hrm : resM (⟨p.vars, p.arrays, p.body.take k⟩ : Pg).vars.length (runL 5 (extM (linQ ⟨p.vars, p.arrays, p.body.take k⟩).vars.length m) (linQ ⟨p.vars, p.arrays, p.body.take k⟩).body).1 = (runL 5 m (⟨p.vars, p.arrays, p.body.take k⟩ : Pg).body).1 := by
  unfold resP at hre
  split at hre
  ·simpa using congrArg Prod.fst hre
  ·simp at hre
 rw [hrm] at hrs
 rw [hpa] at hra
 rw [runP_of hokf hmo2] at hrp hsp
 simp only at hra hrp hsp hrs
 have hms := memorySame (runL 5 m (p.body.take k)).1 (runL 5 m (p.body.take k)).1 (by omega) (by omega) (fun a h => by have := hsp.2.2.1 a h; omega)
 rw [memSame_refl] at hms
 generalize runL 5 (extM (linQ ⟨p.vars, p.arrays, p.body.take k⟩).vars.length m) (linQ ⟨p.vars, p.arrays, p.body.take k⟩).body = r1 at *
 generalize runL 5 m (p.body.take k) = r2 at *
 generalize extM (linQ ⟨p.vars, p.arrays, p.body.take k⟩).vars.length m = ma at *
 clear hpa hdr hre hrm hlp2
 generalize linQ ⟨p.vars, p.arrays, p.body.take k⟩ = q2 at *
 generalize linQ p = q at *
 obtain ⟨vs, ar, bd⟩ := p
 obtain ⟨va, arr⟩ := m
 obtain ⟨va', arr'⟩ := m'
 obtain ⟨qv, qa, qb⟩ := q
 obtain ⟨ov, oa, ob⟩ := q2
 obtain ⟨xa, xr⟩ := ma
 obtain ⟨⟨u1, u2⟩, t1⟩ := r1
 obtain ⟨⟨w1, w2⟩, t2⟩ := r2
 simp only at hra hrp hrs hms hea hkk hk1 hbl
 have hk2 : (bs2.length : Int) % ((bd.length : Int) + 1) = (k : Int) := by rw [← hkk]; simp
 have hct : (St1.cellsL bd).take k = St1.cellsL (bd.take k) := by rw [St1.cellsL_eq, St1.cellsL_eq, List.map_take]
 iterate 32 ((try (refine drvZ Tryz.func8 ?_; simp (maxSteps := 9999999) only [go_sem, Mm.cells, trD, bne_self_eq_false, hk2, hk1, hct])); (try ((with_reducible refine And.intro ?_ ?_) <;> (repeat' with_reducible apply And.intro) <;> try exact sd)); (try first | refine XK.p hli ok28 ?_ | refine XK.gp hli ok28 ?_ | refine XK.p hls ok32 ?_ | refine XK.gp hls ok32 ?_ | refine XK.p hps ok18 ?_ | refine XK.gp hps ok18 ?_ | refine XK.p hli2 ok28 ?_ | refine XK.gp hli2 ok28 ?_ | refine XK.p hea ok30 ?_ | refine XK.gp hea ok30 ?_ | refine XK.p hra ok19 ?_ | refine XK.gp hra ok19 ?_ | refine XK.p hrp ok19 ?_ | refine XK.gp hrp ok19 ?_ | refine XK.p hrs ok34 ?_ | refine XK.gp hrs ok34 ?_ | refine XK.p hms ok21 ?_ | refine XK.gp hms ok21 ?_))
 exact ret _
end Go.Proofs.YtpphageokplgoaaGreat.CtD
namespace Go.Proofs.YtpphageokplgoaaGreat.fnLinearizeSequence
open Go.ChangeShapes Go.WideShapes Go.ChangeAt Go.RowKit
open Go.ChangeMaps (open_string shut_string)
theorem own : ownKnob Tryz.prog.godebug = none := by kernel_rfl
theorem laidOut : laidOutB Tryz.prog = true := by kernel_rfl
theorem bytes5 : Tryz.prog.bytesOf 5 = 1 := by kernel_rfl
theorem lifted (os : Os) (started : os.Started) (H : Type) (enc : TypeId × Value → H) :
 ReturnsInHanded {} Tryz.checked os 8 .any (Rows.fnLinearizeSequenceSpec.pre6 enc Tryz.prog Tryz.f8 Rows.fnLinearizeSequenceRow.domain false) (Rows.fnLinearizeSequenceSpec.post enc Tryz.prog Tryz.f8 false true false false) := by
 refine returnsInHanded_of_change_sized (C := Tryz.checked) own started (by kernel_rfl) Tryz.func8
  (ChangeSpec.witness6 (enc := enc) (C := Tryz.checked) false ⟨#[], #[.slice none 0 0, .slice none 0 0], []⟩ 8 (by kernel_rfl) (by kernel_rfl) (by kernel_rfl) (by kernel_rfl)) ?_
 intro W base args ds gs before hval0 hW hcnd hsz0 _
 have hval : ∀ (j : Nat) t v, Tryz.f8.params[j]? = some t → args[j]? = some v → Value.okWide Tryz.prog W .any base t v := hval0
 have hsz : (DataW.weightsEach Tryz.prog (Tryz.f8.params.toList ++ Rows.fnLinearizeSequenceSpec.plain.varTypes Tryz.prog) (ds ++ gs)).all (· ≤ reachBytes) = true := hsz0
 have hW' := hW
 obtain ⟨p, q, hA0, hV, rfl, hfz, hnd⟩ := hW
 have hA : DataW.TrodAll enc Tryz.prog W 0 (fun _ => true) true Tryz.f8.params.toList args.toList ds p := hA0
 rw [Tryz.params8] at hA hval hsz
 obtain ⟨v0, vs0, d0, ds0, p0, q0, hargs, rfl, rfl, h0, r0⟩ := trodAll_cons hA
 obtain ⟨v1, vs1, d1, ds1, p1, q1, rfl, rfl, rfl, h1, r1⟩ := trodAll_cons r0
 obtain ⟨rfl, rfl, rfl⟩ := trodAll_nil r1
 obtain rfl : args = #[v0, v1] := by cases args; simp_all
 obtain ⟨rfl, rfl⟩ := trodVars_none hV
 obtain ⟨a0, len0, cap0, rfl⟩ := okWide_slice Tryz.underlying22 (hval 0 22 v0 rfl rfl)
 have k0 := h0
 have lt0 : ∀ x ∈ p0, x.block < W.heap.size := by obtain ⟨m, hm⟩ := k0; exact DataW.trod_lt m _ _ _ hm
 obtain ⟨z0, w0, m0⟩ : ∃ zs, Go.CT.IsRow .u8 W a0 len0 cap0 zs ∧ len0 ≤ Go.CT.mx := by
  obtain ⟨fuel, hf⟩ := h0
  rcases open_ints Tryz.underlying22 Tryz.underlying5 (by kernel_rfl) hf with ⟨hcs, _⟩ | ⟨x, l, c, zs, hcs, _, hl, hm, hz, hx, hcell, hwz⟩
  ·simp [Value.cells] at hcs
   obtain ⟨rfl, rfl, rfl⟩ := hcs
   exact ⟨[], .inl ⟨rfl, rfl, rfl, rfl⟩, Nat.zero_le _⟩
  ·simp [Value.cells] at hcs
   obtain ⟨rfl, rfl, rfl⟩ := hcs
   simp only [Prod.mk.injEq] at hx
   obtain ⟨rfl, rfl⟩ := hx
   have hz' : zs.length = cap0 := by simpa using hz
   have := sized_slice hsz (j := 0) (t := 22) (e := 5) rfl rfl Tryz.underlying22
   rw [bytes5] at this
   simp only [lits, List.length_map, List.length_take, List.length_drop, reachBytes] at this
   have hmx := Go.CT.mx_eq
   exact ⟨zs, .inr ⟨_, rfl, hl, hz', hcell, hwz⟩, by omega⟩
 obtain ⟨a1, len1, cap1, rfl⟩ := okWide_slice Tryz.underlying22 (hval 1 22 v1 rfl rfl)
 have k1 := h1
 have lt1 : ∀ x ∈ p1, x.block < W.heap.size := by obtain ⟨m, hm⟩ := k1; exact DataW.trod_lt m _ _ _ hm
 obtain ⟨z1, w1, m1⟩ : ∃ zs, Go.CT.IsRow .u8 W a1 len1 cap1 zs ∧ len1 ≤ Go.CT.mx := by
  obtain ⟨fuel, hf⟩ := h1
  rcases open_ints Tryz.underlying22 Tryz.underlying5 (by kernel_rfl) hf with ⟨hcs, _⟩ | ⟨x, l, c, zs, hcs, _, hl, hm, hz, hx, hcell, hwz⟩
  ·simp [Value.cells] at hcs
   obtain ⟨rfl, rfl, rfl⟩ := hcs
   exact ⟨[], .inl ⟨rfl, rfl, rfl, rfl⟩, Nat.zero_le _⟩
  ·simp [Value.cells] at hcs
   obtain ⟨rfl, rfl, rfl⟩ := hcs
   simp only [Prod.mk.injEq] at hx
   obtain ⟨rfl, rfl⟩ := hx
   have hz' : zs.length = cap1 := by simpa using hz
   have := sized_slice hsz (j := 1) (t := 22) (e := 5) rfl rfl Tryz.underlying22
   rw [bytes5] at this
   simp only [lits, List.length_map, List.length_take, List.length_drop, reachBytes] at this
   have hmx := Go.CT.mx_eq
   exact ⟨zs, .inr ⟨_, rfl, hl, hz', hcell, hwz⟩, by omega⟩
 clear hA0 hval0 hsz0
 have hr0 := fun s => w0.rd (s := s) m0
 have hr1 := fun s => w1.rd (s := s) m1
 refine (Go.CT.DC.below (CtD.lawLS (z0.take len0) (z1.take len1) (hr0 fun _ => none).2.1 (hr1 fun _ => none).2.1 (by rw [(hr0 fun _ => none).2.2]; exact m0) (by rw [(hr1 fun _ => none).2.2]; exact m1)) fun s => .two (hr0 s).1 (hr1 s).1).mono fun e W' ⟨he, bel⟩ => ?_
 subst he
 exact ⟨_, rfl, _, _, _, [], _, [], hW', trodAll_mk1 (shut_bool Tryz.underlying4 _), (trodAll_cons_mk (Below.trod laidOut (by kernel_rfl) (of_decide_eq_true (by kernel_rfl)) k0 bel lt0) (trodAll_cons_mk (Below.trod laidOut (by kernel_rfl) (of_decide_eq_true (by kernel_rfl)) k1 bel lt1) trodAll_mk0)), rfl, bel.frame _, fun h => by cases h⟩
theorem hfn : Tryz.pinned.checked.prog.funcNamed Rows.fnLinearizeSequenceRow.func = some 8 := by kernel_rfl
theorem hcl : joinedFacts Tryz.pinned.checked.prog 8 Tryz.f8 Rows.fnLinearizeSequenceSpec Rows.fnLinearizeSequenceRow = true := by kernel_rfl
theorem hin : Tryz.f8.isInstance Tryz.pinned.checked.prog Rows.fnLinearizeSequenceRow.origin Rows.fnLinearizeSequenceRow.targs := of_decide_eq_true (by kernel_rfl)
theorem hwr : Tryz.f8.isWrapper Tryz.pinned.checked.prog Rows.fnLinearizeSequenceRow.wrapper Rows.fnLinearizeSequenceRow.mainSum := by unfold Func.isWrapper; first | (rw [if_pos (by decide +kernel)]; kernel_rfl) | (rw [if_neg (by decide +kernel)]; exact ⟨rfl, rfl⟩)
theorem over : Rows.fnLinearizeSequenceRow.holds Tryz.pinned (OpenSpec.ofChange Rows.fnLinearizeSequenceSpec) :=
 OpenClaim.holds_of_wide 8 Tryz.f8 rfl rfl rfl rfl rfl rfl rfl ⟨rfl, rfl, rfl, rfl, rfl⟩ rfl rfl rfl rfl rfl hfn Tryz.func8 hcl hin hwr
  (fun os started H enc _ => lifted os started H enc)
theorem proved : Rows.FnLinearizeSequenceSaid := over
#print axioms proved
end Go.Proofs.YtpphageokplgoaaGreat.fnLinearizeSequence
