/- For every list of bytes, the Go function FnProductSame returns true, and its arguments read afterwards as before: the statement FnProductSameSaid. -/
import Derived.Test.YtpphageokplgoaaGreatRows
import Derived.WalkKit
import Derived.ProofKit
import Derived.OpenShut
import Derived.ShutString
import Derived.ChangeOld
import Derived.Below
import Derived.SizedLaws
import Derived.Test.YtpphageokplgoaaGreatPFacts
import Derived.Test.YtpphageokplgoaaGreatPAj
import Derived.Test.YtpphageokplgoaaGreatPAiF
import Derived.Test.YtpphageokplgoaaGreatPAl
import Derived.Test.YtpphageokplgoaaGreatPAm
import Derived.Test.YtpphageokplgoaaGreatPAn
import Derived.Test.YtpphageokplgoaaGreatPAo
import Derived.Test.YtpphageokplgoaaGreatPAp
import Derived.Test.YtpphageokplgoaaGreatPAr
import Derived.Test.YtpphageokplgoaaGreatPAs
import Derived.Test.YtpphageokplgoaaGreatPAt
import Derived.Test.YtpphageokplgoaaGreatPAv
import Derived.Test.YtpphageokplgoaaGreatPAz
import Derived.Test.YtpphageokplgoaaGreatPBc
import Derived.Test.YtpphageokplgoaaGreatPBe
set_option linter.unusedVariables false
set_option linter.unusedSimpArgs false
set_option maxHeartbeats 16000000
set_option maxRecDepth 100000
namespace Go.Proofs.YtpphageokplgoaaGreat.CtD
open Go Go.CT CtF CtR
open CtL (pairP prodP dblOK pairM spl1 spl2)
theorem lawPS (bs : List Int) (hb : Fits .u8 bs) (hl : bs.length ≤ mx) : DC Tryz.prog 12 [bytesD bs] [] (fun d h => d = DB true ∧ h = []) := by
 have hmx := mx_eq
 have hdr := drawProductRuns bs hb hl
 unfold bytesD
 unfold bytesD at hdr
 have ret : ∀ hp : Hp, RetOb 0 (fun d h => d = DB true ∧ h = []) (DB true) hp := fun hp => RetOb.plain (d := DB true) ⟨rfl, rfl⟩ rfl
 generalize hRR : (fun (d : D) (h : List (Option (List C))) => d = DB true ∧ h = []) = R at ret ⊢
 by_cases hbig : 1048576 < bs.length
 ·have hz : ((1048576 : Int) < (bs.length : Int)) = True := eq_true (by omega)
  refine dcZ Tryz.func12 ?_
  simp (maxSteps := 9999999) only [go_sem, hz]
  iterate 3 ((try (refine drvZ Tryz.func12 ?_; simp (maxSteps := 9999999) only [go_sem, hz])); (try ((with_reducible refine And.intro ?_ ?_) <;> (repeat' with_reducible apply And.intro) <;> try exact sd)))
  exact ret _
 have hz : ((1048576 : Int) < (bs.length : Int)) = False := eq_false (by omega)
 refine dcZ Tryz.func12 ?_
 simp (maxSteps := 9999999) only [go_sem, hz]
 iterate 3 ((try (refine drvZ Tryz.func12 ?_; simp (maxSteps := 9999999) only [go_sem, hz])); (try ((with_reducible refine And.intro ?_ ?_) <;> (repeat' with_reducible apply And.intro) <;> try exact sd)))
 refine XK.callG [] hdr ok36 (fun i' x h => by simp at h) (hbT ()) (fun d h' ⟨_, _, _, _, _, _, _, _, e⟩ => by subst e; simp) ?_
 rintro _ _ ⟨p, m, m', rfl, hok, hm, hm', hlo, rfl⟩ _
 have hln := prog_len hok
 have hli := productI p hok
 have hls := productS p hok
 have hfr := releaseFree p (by omega) (by omega)
 have hmo := memOK_of hm
 have hmo' := memOK_of hm'
 have hlp : prodP p = if dblOK p = true ∧ (strictR p).1 = 0 ∧ progOK (pairP p) = true then (pairP p, true) else (⟨[], [], []⟩, false) := rfl
 by_cases hc : dblOK p = true ∧ (strictR p).1 = 0 ∧ progOK (pairP p) = true
 case neg =>
  rw [if_neg hc] at hlp
  rw [hlp] at hli hls
  have hps := programSame ⟨[], [], []⟩ (by simp) (by simp) (by simp) (by simp)
  obtain ⟨vs, ar, bd⟩ := p
  obtain ⟨va, arr⟩ := m
  obtain ⟨va', arr'⟩ := m'
  clear hdr
  iterate 10 ((try (refine drvZ Tryz.func12 ?_; simp (maxSteps := 9999999) only [go_sem, Mm.cells, bne_self_eq_false, List.map_nil])); (try ((with_reducible refine And.intro ?_ ?_) <;> (repeat' with_reducible apply And.intro) <;> try exact sd)); (try first | refine XK.p hli ok37 ?_ | refine XK.gp hli ok37 ?_ | refine XK.p hls ok38 ?_ | refine XK.gp hls ok38 ?_ | refine XK.p hps ok18 ?_ | refine XK.gp hps ok18 ?_ | refine XK.p hfr ok29 ?_ | refine XK.gp hfr ok29 ?_ | refine XK.gs (DB false) ?_))
  exact ret _
 obtain ⟨hd, hst, hq⟩ := hc
 rw [if_pos ⟨hd, hst, hq⟩] at hlp
 rw [hlp] at hli hls
 clear hlp hdr
 have hlq := prog_len hq
 have hqf := (CtL.prog_FS hq).1
 have hps := programSame (pairP p) (by omega) (by omega) (by omega) (sameBody hq)
 obtain ⟨hs2, hrl⟩ := CtL.prod_same hd hm
 obtain ⟨hmq, hrun, hout, hs1⟩ := CtL.prod_run hd hq hm hm
 have hpm := pairMemI p m m hd hmo hmo
 have hrq := runProgI (pairP p) (pairM m m) (by omega) (by omega)
 rw [hrun] at hrq
 have hsp := splitMemI p (runL 5 (pairM m m) (pairP p).body).1 hd (runL_ok (CtL.pair_fits hd hm hm) (body_of hq).1).1 hout
 rw [hs1] at hsp
 have hrp := runProgI p m (by omega) (by omega)
 have hsm := runP_sm p m
 rw [runP_of hok hmo] at hrp hsm
 simp only at hrq hrp hsm
 rw [hs2] at hsp
 have hsq := runP_sm (pairP p) (pairM m m)
 rw [hrun] at hsq
 simp only at hsq
 have hms := memorySame (runL 5 m p.body).1 (runL 5 m p.body).1 (by omega) (by omega) (fun a h => by have := hsm.2.2.1 a h; omega)
 rw [memSame_refl] at hms
 clear hs2
 generalize runL 5 (pairM m m) (pairP p).body = r1 at *
 generalize pairM m m = mm at *
 clear hrun hout hmq hs1
 generalize pairP p = q at *
 generalize runL 5 m p.body = r2 at *
 obtain ⟨vs, ar, bd⟩ := p
 obtain ⟨va, arr⟩ := m
 obtain ⟨va', arr'⟩ := m'
 obtain ⟨qv, qa, qb⟩ := q
 obtain ⟨xa, xr⟩ := mm
 obtain ⟨⟨u1, u2⟩, t1⟩ := r1
 obtain ⟨⟨w1, w2⟩, t2⟩ := r2
 simp only at hrq hrp hsp hms hrl hsq hsm
 have hc1 := ctReleases t1 (by omega)
 have hc2 := ctReleases t2 (by omega)
 have hl1 : (rel t1).length ≤ t1.length := List.length_filter_le _ _
 generalize rel t1 = s1 at *
 generalize rel t2 = s2 at *
 have he : ((s1.length : Int) = 2 * (s2.length : Int)) = True := eq_true (by omega)
 have he2 : ((s1.length : Int) == 2 * (s2.length : Int)) = true := by simp; omega
 iterate 28 ((try (refine drvZ Tryz.func12 ?_; simp (maxSteps := 9999999) only [go_sem, Mm.cells, trD, bne_self_eq_false, he, he2])); (try ((with_reducible refine And.intro ?_ ?_) <;> (repeat' with_reducible apply And.intro) <;> try exact sd)); (try first | refine XK.p hli ok37 ?_ | refine XK.gp hli ok37 ?_ | refine XK.p hls ok38 ?_ | refine XK.gp hls ok38 ?_ | refine XK.p hps ok18 ?_ | refine XK.gp hps ok18 ?_ | refine XK.p hpm ok39 ?_ | refine XK.gp hpm ok39 ?_ | refine XK.p hrq ok19 ?_ | refine XK.gp hrq ok19 ?_ | refine XK.p hrp ok19 ?_ | refine XK.gp hrp ok19 ?_ | refine XK.p hsp ok40 ?_ | refine XK.gp hsp ok40 ?_ | refine XK.p hms ok21 ?_ | refine XK.gp hms ok21 ?_ | refine XK.p hc1 ok33 ?_ | refine XK.gp hc1 ok33 ?_ | refine XK.p hc2 ok33 ?_ | refine XK.gp hc2 ok33 ?_))
 exact ret _
end Go.Proofs.YtpphageokplgoaaGreat.CtD
namespace Go.Proofs.YtpphageokplgoaaGreat.fnProductSame
open Go.ChangeShapes Go.WideShapes Go.ChangeAt Go.RowKit
open Go.ChangeMaps (open_string shut_string)
theorem own : ownKnob Tryz.prog.godebug = none := by kernel_rfl
theorem laidOut : laidOutB Tryz.prog = true := by kernel_rfl
theorem bytes5 : Tryz.prog.bytesOf 5 = 1 := by kernel_rfl
theorem lifted (os : Os) (started : os.Started) (H : Type) (enc : TypeId × Value → H) :
 ReturnsInHanded {} Tryz.checked os 12 .any (Rows.fnProductSameSpec.pre6 enc Tryz.prog Tryz.f12 Rows.fnProductSameRow.domain false) (Rows.fnProductSameSpec.post enc Tryz.prog Tryz.f12 false true false false) := by
 refine returnsInHanded_of_change_sized (C := Tryz.checked) own started (by kernel_rfl) Tryz.func12
  (ChangeSpec.witness6 (enc := enc) (C := Tryz.checked) false ⟨#[], #[.slice none 0 0], []⟩ 8 (by kernel_rfl) (by kernel_rfl) (by kernel_rfl) (by kernel_rfl)) ?_
 intro W base args ds gs before hval0 hW hcnd hsz0 _
 have hval : ∀ (j : Nat) t v, Tryz.f12.params[j]? = some t → args[j]? = some v → Value.okWide Tryz.prog W .any base t v := hval0
 have hsz : (DataW.weightsEach Tryz.prog (Tryz.f12.params.toList ++ Rows.fnProductSameSpec.plain.varTypes Tryz.prog) (ds ++ gs)).all (· ≤ reachBytes) = true := hsz0
 have hW' := hW
 obtain ⟨p, q, hA0, hV, rfl, hfz, hnd⟩ := hW
 have hA : DataW.TrodAll enc Tryz.prog W 0 (fun _ => true) true Tryz.f12.params.toList args.toList ds p := hA0
 rw [Tryz.params12] at hA hval hsz
 obtain ⟨v0, vs0, d0, ds0, p0, q0, hargs, rfl, rfl, h0, r0⟩ := trodAll_cons hA
 obtain ⟨rfl, rfl, rfl⟩ := trodAll_nil r0
 obtain rfl : args = #[v0] := by cases args; simp_all
 obtain ⟨rfl, rfl⟩ := trodVars_none hV
 obtain ⟨a0, len0, cap0, rfl⟩ := okWide_slice Tryz.underlying22 (hval 0 22 v0 rfl rfl)
 have k0 := h0
 have lt0 : ∀ x ∈ p0, x.block < W.heap.size := by obtain ⟨m, hm⟩ := k0; exact DataW.trod_lt m _ _ _ hm
 obtain ⟨z0, w0, m0⟩ : ∃ zs, Go.CT.IsRow .u8 W a0 len0 cap0 zs ∧ len0 ≤ Go.CT.mx := by
  obtain ⟨fuel, hf⟩ := h0
  rcases open_ints Tryz.underlying22 Tryz.underlying5 (by kernel_rfl) hf with ⟨hcs, _⟩ | ⟨x, l, c, zs, hcs, _, hl, hm, hz, hx, hcell, hwz⟩
  ·simp [Value.cells] at hcs
   obtain ⟨rfl, rfl, rfl⟩ := hcs
   exact ⟨[], .inl ⟨rfl, rfl, rfl, rfl⟩, Nat.zero_le _⟩
  ·simp [Value.cells] at hcs
   obtain ⟨rfl, rfl, rfl⟩ := hcs
   simp only [Prod.mk.injEq] at hx
   obtain ⟨rfl, rfl⟩ := hx
   have hz' : zs.length = cap0 := by simpa using hz
   have := sized_slice hsz (j := 0) (t := 22) (e := 5) rfl rfl Tryz.underlying22
   rw [bytes5] at this
   simp only [lits, List.length_map, List.length_take, List.length_drop, reachBytes] at this
   have hmx := Go.CT.mx_eq
   exact ⟨zs, .inr ⟨_, rfl, hl, hz', hcell, hwz⟩, by omega⟩
 clear hA0 hval0 hsz0
 have hr0 := fun s => w0.rd (s := s) m0
 refine (Go.CT.DC.below (CtD.lawPS (z0.take len0) (hr0 fun _ => none).2.1 (by rw [(hr0 fun _ => none).2.2]; exact m0)) fun s => .one (hr0 s).1).mono fun e W' ⟨he, bel⟩ => ?_
 subst he
 exact ⟨_, rfl, _, _, _, [], _, [], hW', trodAll_mk1 (shut_bool Tryz.underlying4 _), (trodAll_cons_mk (Below.trod laidOut (by kernel_rfl) (of_decide_eq_true (by kernel_rfl)) k0 bel lt0) trodAll_mk0), rfl, bel.frame _, fun h => by cases h⟩
theorem hfn : Tryz.pinned.checked.prog.funcNamed Rows.fnProductSameRow.func = some 12 := by kernel_rfl
theorem hcl : joinedFacts Tryz.pinned.checked.prog 12 Tryz.f12 Rows.fnProductSameSpec Rows.fnProductSameRow = true := by kernel_rfl
theorem hin : Tryz.f12.isInstance Tryz.pinned.checked.prog Rows.fnProductSameRow.origin Rows.fnProductSameRow.targs := of_decide_eq_true (by kernel_rfl)
theorem hwr : Tryz.f12.isWrapper Tryz.pinned.checked.prog Rows.fnProductSameRow.wrapper Rows.fnProductSameRow.mainSum := by unfold Func.isWrapper; first | (rw [if_pos (by decide +kernel)]; kernel_rfl) | (rw [if_neg (by decide +kernel)]; exact ⟨rfl, rfl⟩)
theorem over : Rows.fnProductSameRow.holds Tryz.pinned (OpenSpec.ofChange Rows.fnProductSameSpec) :=
 OpenClaim.holds_of_wide 12 Tryz.f12 rfl rfl rfl rfl rfl rfl rfl ⟨rfl, rfl, rfl, rfl, rfl⟩ rfl rfl rfl rfl rfl hfn Tryz.func12 hcl hin hwr
  (fun os started H enc _ => lifted os started H enc)
theorem proved : Rows.FnProductSameSaid := over
#print axioms proved
end Go.Proofs.YtpphageokplgoaaGreat.fnProductSame
