/- For every list of bytes, the Go function FnReleasedValues returns true, and its arguments read afterwards as before: the statement FnReleasedValuesSaid. -/
import Derived.Test.YtpphageokplgoaaGreatRows
import Derived.WalkKit
import Derived.ProofKit
import Derived.OpenShut
import Derived.ShutString
import Derived.ChangeOld
import Derived.Below
import Derived.SizedLaws
import Derived.Test.YtpphageokplgoaaGreatVFacts
import Derived.Test.YtpphageokplgoaaGreatVAj
import Derived.Test.YtpphageokplgoaaGreatVAk
import Derived.Test.YtpphageokplgoaaGreatVAl
import Derived.Test.YtpphageokplgoaaGreatVAm
import Derived.Test.YtpphageokplgoaaGreatVAn
import Derived.Test.YtpphageokplgoaaGreatVAo
import Derived.Test.YtpphageokplgoaaGreatVAr
import Derived.Test.YtpphageokplgoaaGreatVAu
import Derived.Test.YtpphageokplgoaaGreatVAv
import Derived.Test.YtpphageokplgoaaGreatVAw
import Derived.Test.YtpphageokplgoaaGreatVAx
import Derived.Test.YtpphageokplgoaaGreatVAy
import Derived.Test.YtpphageokplgoaaGreatVAz
import Derived.Test.YtpphageokplgoaaGreatVBa
import Derived.Test.YtpphageokplgoaaGreatVBd
set_option linter.unusedVariables false
set_option linter.unusedSimpArgs false
set_option maxHeartbeats 16000000
set_option maxRecDepth 100000
namespace Go.Proofs.YtpphageokplgoaaGreat.CtD
open Go Go.CT CtF CtR
open CtL (linQ linP extM resM extOK extP resP)
theorem drawReleasedValues (bs : List Int) (hb : Fits .u8 bs) (hl : bs.length ≤ mx) : DC Tryz.prog 24 [bytesD bs] [] dmR := by
 have hdm := drawRunProgram bs hb hl
 generalize hR : dmR = R
 have hRR := hR
 unfold bytesD
 unfold bytesD at hdm
 refine dcZ Tryz.func24 ?_
 simp (maxSteps := 9999999) only [go_sem]
 ((try (refine drvZ Tryz.func24 ?_; simp (maxSteps := 9999999) only [go_sem])); (try ((with_reducible refine And.intro ?_ ?_) <;> (repeat' with_reducible apply And.intro) <;> try exact sd)))
 refine XK.callG [] hdm ok15 (fun i' x h => by simp at h) (hbT ()) (fun d h' ⟨_, _, _, _, _, e⟩ => by subst e; simp) ?_
 rintro _ _ ⟨⟨vs2, ar2, bd2⟩, ⟨va2, arr2⟩, rfl, hp2, hm2, rfl⟩ _
 iterate 3 ((try (refine drvZ Tryz.func24 ?_; simp (maxSteps := 9999999) only [go_sem, Mm.cells])); (try ((with_reducible refine And.intro ?_ ?_) <;> (repeat' with_reducible apply And.intro) <;> try exact sd)))
 refine RetOb.ofQ (fun _ => none) [] (.tup [.agg (Pg.cells ⟨vs2, ar2, bd2⟩), .agg (Mm.cells ⟨va2, arr2⟩)]) [] ?_ (by rw [← hR]; exact ⟨_, _, rfl, hp2, hm2, rfl⟩) (by simp)
 simp [enumL, DM, DMs, CM, CMs, HpOK, LowOK, hOf, Pg.cells, Mm.cells, isI]
theorem free_val {p : Pg} {m : Mm} (hok : progOK p = true) (hm : memOK p.vars p.arrays m = true) (h : freeP p = true) : valR (runP p m).2.1 = [] := by
 simp only [freeP, Bool.and_eq_true] at h
 rw [runP_of hok hm]
 have := CtL.rel_none (free_ev 5 p.body h.2 m)
 show (rel (runL 5 m p.body).2).map _ = []
 rw [show rel (runL 5 m p.body).2 = [] from this]; rfl
theorem lawRV (bs : List Int) (hb : Fits .u8 bs) (hl : bs.length ≤ mx) : DC Tryz.prog 4 [bytesD bs] [] (fun d h => d = DB true ∧ h = []) := by
 have hmx := mx_eq
 have hdr := drawReleasedValues bs hb hl
 unfold bytesD
 unfold bytesD at hdr
 have ret : ∀ hp : Hp, RetOb 0 (fun d h => d = DB true ∧ h = []) (DB true) hp := fun hp => RetOb.plain (d := DB true) ⟨rfl, rfl⟩ rfl
 generalize hRR : (fun (d : D) (h : List (Option (List C))) => d = DB true ∧ h = []) = R at ret ⊢
 by_cases hbig : 1048576 < bs.length
 ·have hz : ((1048576 : Int) < (bs.length : Int)) = True := eq_true (by omega)
  refine dcZ Tryz.func4 ?_
  simp (maxSteps := 9999999) only [go_sem, hz]
  iterate 2 ((try (refine drvZ Tryz.func4 ?_; simp (maxSteps := 9999999) only [go_sem, hz])); (try ((with_reducible refine And.intro ?_ ?_) <;> (repeat' with_reducible apply And.intro) <;> try exact sd)))
  exact ret _
 have hz : ((1048576 : Int) < (bs.length : Int)) = False := eq_false (by omega)
 refine dcZ Tryz.func4 ?_
 simp (maxSteps := 9999999) only [go_sem, hz]
 iterate 2 ((try (refine drvZ Tryz.func4 ?_; simp (maxSteps := 9999999) only [go_sem, hz])); (try ((with_reducible refine And.intro ?_ ?_) <;> (repeat' with_reducible apply And.intro) <;> try exact sd)))
 refine XK.callG [] hdr ok24 (fun i' x h => by simp at h) (hbT ()) (fun d h' ⟨_, _, _, _, _, e⟩ => by subst e; simp) ?_
 rintro _ _ ⟨p, m, rfl, hp, hm, rfl⟩ _
 have hpv := hp.nv
 have hpa := hp.na
 have hrI := releasedI p m (by omega) (by omega)
 have hrS := releasedS p m (by omega) (by omega) (by have := hp.sz 5; omega)
 have hfr := releaseFree p (by omega) (by omega)
 have hsm := (runP_sm p m).2.2.2
 have hVl : (valR (runP p m).2.1).length ≤ 1000000 := Nat.le_trans (by rw [valR, List.length_map]; exact List.length_filter_le _ _) hsm
 have hci := ctInts (valR (runP p m).2.1) (valR (runP p m).2.1) (by omega)
 rw [decide_eq_true rfl] at hci
 clear hdr
 cases hok3 : (runP p m).2.2 with
 | false =>
  rw [hok3] at hrI hrS
  generalize valR (runP p m).2.1 = V at *
  simp only [ints] at hrI hrS hci
  obtain ⟨vs, ar, bd⟩ := p
  obtain ⟨va, arr⟩ := m
  iterate 12 ((try (refine drvZ Tryz.func4 ?_; simp (maxSteps := 9999999) only [go_sem, Mm.cells, bne_self_eq_false])); (try ((with_reducible refine And.intro ?_ ?_) <;> (repeat' with_reducible apply And.intro) <;> try exact sd)); (try first | refine XK.p hrI ok25 ?_ | refine XK.gp hrI ok25 ?_ | refine XK.p hrS ok26 ?_ | refine XK.gp hrS ok26 ?_ | refine XK.p hci ok27 ?_ | refine XK.gp hci ok27 ?_))
  exact ret _
 | true =>
  rw [hok3] at hrI hrS
  obtain ⟨hok, hmo⟩ := runP_ok hok3
  have hfv := free_val hok hmo
  have hli := linearizeI p hok
  have hlp : linP p = if fineP flowR p = true ∧ progOK (linQ p) = true then (linQ p, true) else (⟨[], [], []⟩, false) := rfl
  have hrq : fineP flowR p = true ∧ progOK (linQ p) = true → (DC Tryz.prog 30 [.agg p.cells, .agg (linQ p).cells, .agg m.cells] [] (fun r h => r = .tup [.agg (extM (linQ p).vars.length m).cells, DB true] ∧ h = [])) ∧
   DC Tryz.prog 25 [.agg (linQ p).cells, .agg (extM (linQ p).vars.length m).cells] [] (fun r h => r = .tup [ints (valR (runP p m).2.1), DB true] ∧ h = []) := fun ⟨hf, hq⟩ => by
   have hlq := prog_len hq
   refine ⟨extendI p (linQ p) m (by omega) (by omega) (by omega) (by omega) (CtL.linQ_ext hok hq) hmo, ?_⟩
   have h := releasedI (linQ p) (extM (linQ p).vars.length m) (by omega) (by omega)
   obtain ⟨_, _, hpa, _, hrl⟩ := CtL.lin_run hf hq hmo
   rw [hpa] at h
   have e : valR (runL 5 (extM (linQ p).vars.length m) (linQ p).body).2 = valR (runP p m).2.1 := by
    rw [runP_of hok hmo]; show (rel _).map _ = (rel _).map _; rw [hrl]
   simp only [e] at h
   exact h
  generalize extM (linQ p).vars.length m = ma at *
  generalize valR (runP p m).2.1 = V at *
  generalize freeP p = fe at *
  simp only [ints] at hrI hrS hci hrq
  have hend : (((V.length : Int) = 0) = True ∧ ((V.length : Int) == 0) = true) ∨ (((V.length : Int) = 0) = False ∧ ((V.length : Int) == 0) = false ∧ fe = false) := by
   rcases V with _ | ⟨a, r⟩
   ·left; simp
   ·right
    refine ⟨eq_false (by simp; omega), by simp; omega, ?_⟩
    cases fe with
    | false => rfl
    | true => have := hfv rfl; simp at this
  by_cases hc : fineP flowR p = true ∧ progOK (linQ p) = true
  ·obtain ⟨hea, hrv⟩ := hrq hc
   clear hrq
   rw [if_pos hc] at hlp
   rw [hlp] at hli
   clear hlp hc
   generalize linQ p = q at *
   obtain ⟨vs, ar, bd⟩ := p
   obtain ⟨va, arr⟩ := m
   obtain ⟨qv, qa, qb⟩ := q
   obtain ⟨xa, xr⟩ := ma
   simp only at hli
   rcases hend with ⟨g1, g2⟩ | ⟨g1, g2, rfl⟩
   ·iterate 26 ((try (refine drvZ Tryz.func4 ?_; simp (maxSteps := 9999999) only [go_sem, Mm.cells, bne_self_eq_false, g1, g2])); (try ((with_reducible refine And.intro ?_ ?_) <;> (repeat' with_reducible apply And.intro) <;> try exact sd)); (try first | refine XK.p hrI ok25 ?_ | refine XK.gp hrI ok25 ?_ | refine XK.p hrS ok26 ?_ | refine XK.gp hrS ok26 ?_ | refine XK.p hci ok27 ?_ | refine XK.gp hci ok27 ?_ | refine XK.p hli ok28 ?_ | refine XK.gp hli ok28 ?_ | refine XK.p hea ok30 ?_ | refine XK.gp hea ok30 ?_ | refine XK.p hrv ok25 ?_ | refine XK.gp hrv ok25 ?_ | refine XK.gs (DB false) ?_))
    exact ret _
   ·iterate 26 ((try (refine drvZ Tryz.func4 ?_; simp (maxSteps := 9999999) only [go_sem, Mm.cells, bne_self_eq_false, g1, g2])); (try ((with_reducible refine And.intro ?_ ?_) <;> (repeat' with_reducible apply And.intro) <;> try exact sd)); (try first | refine XK.p hrI ok25 ?_ | refine XK.gp hrI ok25 ?_ | refine XK.p hrS ok26 ?_ | refine XK.gp hrS ok26 ?_ | refine XK.p hci ok27 ?_ | refine XK.gp hci ok27 ?_ | refine XK.p hli ok28 ?_ | refine XK.gp hli ok28 ?_ | refine XK.p hea ok30 ?_ | refine XK.gp hea ok30 ?_ | refine XK.p hrv ok25 ?_ | refine XK.gp hrv ok25 ?_ | refine XK.p hfr ok29 ?_ | refine XK.gp hfr ok29 ?_))
    exact ret _
  ·rw [if_neg hc] at hlp
   rw [hlp] at hli
   clear hlp hc hrq
   obtain ⟨vs, ar, bd⟩ := p
   obtain ⟨va, arr⟩ := m
   rcases hend with ⟨g1, g2⟩ | ⟨g1, g2, rfl⟩
   ·iterate 26 ((try (refine drvZ Tryz.func4 ?_; simp (maxSteps := 9999999) only [go_sem, Mm.cells, bne_self_eq_false, g1, g2, List.map_nil])); (try ((with_reducible refine And.intro ?_ ?_) <;> (repeat' with_reducible apply And.intro) <;> try exact sd)); (try first | refine XK.p hrI ok25 ?_ | refine XK.gp hrI ok25 ?_ | refine XK.p hrS ok26 ?_ | refine XK.gp hrS ok26 ?_ | refine XK.p hci ok27 ?_ | refine XK.gp hci ok27 ?_ | refine XK.p hli ok28 ?_ | refine XK.gp hli ok28 ?_ | refine XK.gs (DB false) ?_))
    exact ret _
   ·iterate 26 ((try (refine drvZ Tryz.func4 ?_; simp (maxSteps := 9999999) only [go_sem, Mm.cells, bne_self_eq_false, g1, g2, List.map_nil])); (try ((with_reducible refine And.intro ?_ ?_) <;> (repeat' with_reducible apply And.intro) <;> try exact sd)); (try first | refine XK.p hrI ok25 ?_ | refine XK.gp hrI ok25 ?_ | refine XK.p hrS ok26 ?_ | refine XK.gp hrS ok26 ?_ | refine XK.p hci ok27 ?_ | refine XK.gp hci ok27 ?_ | refine XK.p hli ok28 ?_ | refine XK.gp hli ok28 ?_ | refine XK.p hfr ok29 ?_ | refine XK.gp hfr ok29 ?_))
    exact ret _
end Go.Proofs.YtpphageokplgoaaGreat.CtD
namespace Go.Proofs.YtpphageokplgoaaGreat.fnReleasedValues
open Go.ChangeShapes Go.WideShapes Go.ChangeAt Go.RowKit
open Go.ChangeMaps (open_string shut_string)
theorem own : ownKnob Tryz.prog.godebug = none := by kernel_rfl
theorem laidOut : laidOutB Tryz.prog = true := by kernel_rfl
theorem bytes5 : Tryz.prog.bytesOf 5 = 1 := by kernel_rfl
theorem lifted (os : Os) (started : os.Started) (H : Type) (enc : TypeId × Value → H) :
 ReturnsInHanded {} Tryz.checked os 4 .any (Rows.fnReleasedValuesSpec.pre6 enc Tryz.prog Tryz.f4 Rows.fnReleasedValuesRow.domain false) (Rows.fnReleasedValuesSpec.post enc Tryz.prog Tryz.f4 false true false false) := by
 refine returnsInHanded_of_change_sized (C := Tryz.checked) own started (by kernel_rfl) Tryz.func4
  (ChangeSpec.witness6 (enc := enc) (C := Tryz.checked) false ⟨#[], #[.slice none 0 0], []⟩ 8 (by kernel_rfl) (by kernel_rfl) (by kernel_rfl) (by kernel_rfl)) ?_
 intro W base args ds gs before hval0 hW hcnd hsz0 _
 have hval : ∀ (j : Nat) t v, Tryz.f4.params[j]? = some t → args[j]? = some v → Value.okWide Tryz.prog W .any base t v := hval0
 have hsz : (DataW.weightsEach Tryz.prog (Tryz.f4.params.toList ++ Rows.fnReleasedValuesSpec.plain.varTypes Tryz.prog) (ds ++ gs)).all (· ≤ reachBytes) = true := hsz0
 have hW' := hW
 obtain ⟨p, q, hA0, hV, rfl, hfz, hnd⟩ := hW
 have hA : DataW.TrodAll enc Tryz.prog W 0 (fun _ => true) true Tryz.f4.params.toList args.toList ds p := hA0
 rw [Tryz.params4] at hA hval hsz
 obtain ⟨v0, vs0, d0, ds0, p0, q0, hargs, rfl, rfl, h0, r0⟩ := trodAll_cons hA
 obtain ⟨rfl, rfl, rfl⟩ := trodAll_nil r0
 obtain rfl : args = #[v0] := by cases args; simp_all
 obtain ⟨rfl, rfl⟩ := trodVars_none hV
 obtain ⟨a0, len0, cap0, rfl⟩ := okWide_slice Tryz.underlying22 (hval 0 22 v0 rfl rfl)
 have k0 := h0
 have lt0 : ∀ x ∈ p0, x.block < W.heap.size := by obtain ⟨m, hm⟩ := k0; exact DataW.trod_lt m _ _ _ hm
 obtain ⟨z0, w0, m0⟩ : ∃ zs, Go.CT.IsRow .u8 W a0 len0 cap0 zs ∧ len0 ≤ Go.CT.mx := by
  obtain ⟨fuel, hf⟩ := h0
  rcases open_ints Tryz.underlying22 Tryz.underlying5 (by kernel_rfl) hf with ⟨hcs, _⟩ | ⟨x, l, c, zs, hcs, _, hl, hm, hz, hx, hcell, hwz⟩
  ·simp [Value.cells] at hcs
   obtain ⟨rfl, rfl, rfl⟩ := hcs
   exact ⟨[], .inl ⟨rfl, rfl, rfl, rfl⟩, Nat.zero_le _⟩
  ·simp [Value.cells] at hcs
   obtain ⟨rfl, rfl, rfl⟩ := hcs
   simp only [Prod.mk.injEq] at hx
   obtain ⟨rfl, rfl⟩ := hx
   have hz' : zs.length = cap0 := by simpa using hz
   have := sized_slice hsz (j := 0) (t := 22) (e := 5) rfl rfl Tryz.underlying22
   rw [bytes5] at this
   simp only [lits, List.length_map, List.length_take, List.length_drop, reachBytes] at this
   have hmx := Go.CT.mx_eq
   exact ⟨zs, .inr ⟨_, rfl, hl, hz', hcell, hwz⟩, by omega⟩
 clear hA0 hval0 hsz0
 have hr0 := fun s => w0.rd (s := s) m0
 refine (Go.CT.DC.below (CtD.lawRV (z0.take len0) (hr0 fun _ => none).2.1 (by rw [(hr0 fun _ => none).2.2]; exact m0)) fun s => .one (hr0 s).1).mono fun e W' ⟨he, bel⟩ => ?_
 subst he
 exact ⟨_, rfl, _, _, _, [], _, [], hW', trodAll_mk1 (shut_bool Tryz.underlying4 _), (trodAll_cons_mk (Below.trod laidOut (by kernel_rfl) (of_decide_eq_true (by kernel_rfl)) k0 bel lt0) trodAll_mk0), rfl, bel.frame _, fun h => by cases h⟩
theorem hfn : Tryz.pinned.checked.prog.funcNamed Rows.fnReleasedValuesRow.func = some 4 := by kernel_rfl
theorem hcl : joinedFacts Tryz.pinned.checked.prog 4 Tryz.f4 Rows.fnReleasedValuesSpec Rows.fnReleasedValuesRow = true := by kernel_rfl
theorem hin : Tryz.f4.isInstance Tryz.pinned.checked.prog Rows.fnReleasedValuesRow.origin Rows.fnReleasedValuesRow.targs := of_decide_eq_true (by kernel_rfl)
theorem hwr : Tryz.f4.isWrapper Tryz.pinned.checked.prog Rows.fnReleasedValuesRow.wrapper Rows.fnReleasedValuesRow.mainSum := by unfold Func.isWrapper; first | (rw [if_pos (by decide +kernel)]; kernel_rfl) | (rw [if_neg (by decide +kernel)]; exact ⟨rfl, rfl⟩)
theorem over : Rows.fnReleasedValuesRow.holds Tryz.pinned (OpenSpec.ofChange Rows.fnReleasedValuesSpec) :=
 OpenClaim.holds_of_wide 4 Tryz.f4 rfl rfl rfl rfl rfl rfl rfl ⟨rfl, rfl, rfl, rfl, rfl⟩ rfl rfl rfl rfl rfl hfn Tryz.func4 hcl hin hwr
  (fun os started H enc _ => lifted os started H enc)
theorem proved : Rows.FnReleasedValuesSaid := over
#print axioms proved
end Go.Proofs.YtpphageokplgoaaGreat.fnReleasedValues
