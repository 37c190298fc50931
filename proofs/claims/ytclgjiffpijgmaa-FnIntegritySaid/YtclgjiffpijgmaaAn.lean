/- For every list of bytes, the Go function FnIntegrity returns true, and its arguments read afterwards as before: the statement FnIntegritySaid. -/
import Derived.Test.YtclgjiffpijgmaaRows
import Derived.WalkKit
import Derived.ProofKit
import Derived.OpenShut
import Derived.ShutString
import Derived.ChangeOld
import Derived.Below
import Derived.SizedLaws
import Derived.Test.YtclgjiffpijgmaaFacts
import Derived.Test.YtclgjiffpijgmaaAd
import Derived.Test.YtclgjiffpijgmaaAe
import Derived.Test.YtclgjiffpijgmaaAf
import Derived.Test.YtclgjiffpijgmaaAh
import Derived.Test.YtclgjiffpijgmaaAj
import Derived.Test.YtclgjiffpijgmaaAk
import Derived.Test.YtclgjiffpijgmaaAl
set_option linter.unusedVariables false
set_option linter.unusedSimpArgs false
set_option maxHeartbeats 16000000
set_option maxRecDepth 100000
namespace Go.Proofs.Ytclgjiffpijgmaa.CtD
open Go Go.CT CtF CtR

theorem lawIN (bs : List Int) (hb : Fits .u8 bs) (hl : bs.length ≤ mx) : DC Try.prog 10 [bytesD bs] [] (fun d h => d = DB true ∧ h = []) := by
  have hmx := mx_eq
  have hdr := drawTypedRuns bs hb hl 1 2 (by decide)
  unfold bytesD
  unfold bytesD at hdr
  have ret : ∀ hp : Hp, RetOb 0 (fun d h => d = DB true ∧ h = []) (DB true) hp := fun hp => RetOb.plain (d := DB true) ⟨rfl, rfl⟩ rfl
  generalize hRR : (fun (d : D) (h : List (Option (List C))) => d = DB true ∧ h = []) = R at ret ⊢
  by_cases hbig : 1048576 < bs.length
  · have hz : ((1048576 : Int) < (bs.length : Int)) = True := eq_true (by omega)
    refine dcZ Try.func10 ?_
    simp (maxSteps := 9999999) only [go_sem, hz]
    iterate 2 ((try (refine drvZ Try.func10 ?_; simp (maxSteps := 9999999) only [go_sem, hz])); (try ((with_reducible refine And.intro ?_ ?_) <;> (repeat' with_reducible apply And.intro) <;> try exact sd)))
    exact ret _
  have hz : ((1048576 : Int) < (bs.length : Int)) = False := eq_false (by omega)
  refine dcZ Try.func10 ?_
  simp (maxSteps := 9999999) only [go_sem, hz]
  iterate 2 ((try (refine drvZ Try.func10 ?_; simp (maxSteps := 9999999) only [go_sem, hz])); (try ((with_reducible refine And.intro ?_ ?_) <;> (repeat' with_reducible apply And.intro) <;> try exact sd)))
  refine XK.callG [] hdr ok36 (fun i' x h => by simp at h) (hbT ()) (fun d h' ⟨_, _, _, _, _, _, _, _, e⟩ => by subst e; simp) ?_
  rintro _ _ ⟨p, m, m', rfl, hp, hm, hm', hlo, rfl⟩ _
  have hln := prog_len hp.ok
  have hci := checkFlowI p (by omega) (by omega)
  have hcs := checkFlowS p (by omega) (by omega) (by have := (body_of hp.ok).2; omega)
  have hfr := releaseFree p (by omega) (by omega)
  have hra := runProgI p m (by omega) (by omega)
  have hrb := runProgI p m' (by omega) (by omega)
  have hpp := fun m => trustedPart p m (by omega) (by omega)
  have hsm := runP_sm p m
  have hpl := fun h1 h2 => part_low (β := 1) (q := untQ) unt_bit hp.ok hm hm' hlo h1 h2
  have hfc := chk_fine flowR p
  generalize hfp : fineP flowR p = fp at *
  generalize hfe : freeP p = fe at *
  generalize hc : chkR flowR p = x at *
  obtain ⟨code, at_⟩ := x
  simp only at hfc
  obtain ⟨vs, ar, bd⟩ := p
  obtain ⟨va, arr⟩ := m
  obtain ⟨va', arr'⟩ := m'
  by_cases hz0 : code = 0
  · subst hz0
    obtain rfl := hfc.1 rfl
    cases fe with
    | false =>
      iterate 12 ((try (refine drvZ Try.func10 ?_; simp (maxSteps := 9999999) only [go_sem, Mm.cells, bne_self_eq_false])); (try ((with_reducible refine And.intro ?_ ?_) <;> (repeat' with_reducible apply And.intro) <;> try exact sd)); (try first | refine XK.p hci ok37 ?_ | refine XK.gp hci ok37 ?_ | refine XK.p hcs ok38 ?_ | refine XK.gp hcs ok38 ?_ | refine XK.p hfr ok39 ?_ | refine XK.gp hfr ok39 ?_))
      exact ret _
    | true =>
      obtain ⟨o1, o2, o3, o4, o5⟩ := hpl rfl rfl
      have hpa := hpp (runP ⟨vs, ar, bd⟩ ⟨va, arr⟩).1
      have hpb := hpp (runP ⟨vs, ar, bd⟩ ⟨va', arr'⟩).1
      rw [o3] at hpa
      rw [o4, ← o5] at hpb
      rw [o1] at hra
      rw [o2] at hrb
      have hms := fun h1 h2 h3 => memorySame (partP untQ ⟨vs, ar, bd⟩ (runP ⟨vs, ar, bd⟩ ⟨va, arr⟩).1).1 (partP untQ ⟨vs, ar, bd⟩ (runP ⟨vs, ar, bd⟩ ⟨va, arr⟩).1).1 h1 h2 h3
      rw [memSame_refl] at hms
      have hpm : (partP untQ ⟨vs, ar, bd⟩ (runP ⟨vs, ar, bd⟩ ⟨va, arr⟩).1).1.vals.length ≤ mx ∧ (partP untQ ⟨vs, ar, bd⟩ (runP ⟨vs, ar, bd⟩ ⟨va, arr⟩).1).1.arrays.length ≤ mx ∧ ∀ x ∈ (partP untQ ⟨vs, ar, bd⟩ (runP ⟨vs, ar, bd⟩ ⟨va, arr⟩).1).1.arrays, x.length ≤ mx := part_sm untQ _ _ (by omega) (by omega) (fun a h => by have := hsm.2.2.1 a h; omega)
      have hms := hms hpm.1 hpm.2.1 hpm.2.2
      generalize (partP untQ ⟨vs, ar, bd⟩ (runP ⟨vs, ar, bd⟩ ⟨va, arr⟩).1).1 = pt at *
      generalize runP ⟨vs, ar, bd⟩ ⟨va, arr⟩ = r1 at *
      generalize runP ⟨vs, ar, bd⟩ ⟨va', arr'⟩ = r2 at *
      obtain ⟨⟨vx, ax⟩, t1, ok1⟩ := r1
      obtain ⟨⟨vy, ay⟩, t2, ok2⟩ := r2
      obtain ⟨vp, ap⟩ := pt
      clear hdr hpp hpl
      iterate 22 ((try (refine drvZ Try.func10 ?_; simp (maxSteps := 9999999) only [go_sem, Mm.cells, trD, bne_self_eq_false])); (try ((with_reducible refine And.intro ?_ ?_) <;> (repeat' with_reducible apply And.intro) <;> try exact sd)); (try first | refine XK.p hci ok37 ?_ | refine XK.gp hci ok37 ?_ | refine XK.p hcs ok38 ?_ | refine XK.gp hcs ok38 ?_ | refine XK.p hfr ok39 ?_ | refine XK.gp hfr ok39 ?_ | refine XK.p hra ok22 ?_ | refine XK.gp hra ok22 ?_ | refine XK.p hrb ok22 ?_ | refine XK.gp hrb ok22 ?_ | refine XK.p hpa ok40 ?_ | refine XK.gp hpa ok40 ?_ | refine XK.p hpb ok40 ?_ | refine XK.gp hpb ok40 ?_ | refine XK.p hms ok30 ?_ | refine XK.gp hms ok30 ?_))
      exact ret _
  · have g1 : (code = 0) = False := eq_false hz0
    have g2 : (code != 0) = true := by simp [hz0]
    clear hdr hpp hpl
    iterate 12 ((try (refine drvZ Try.func10 ?_; simp (maxSteps := 9999999) only [go_sem, Mm.cells, bne_self_eq_false, g1, g2])); (try ((with_reducible refine And.intro ?_ ?_) <;> (repeat' with_reducible apply And.intro) <;> try exact sd)); (try first | refine XK.p hci ok37 ?_ | refine XK.gp hci ok37 ?_ | refine XK.p hcs ok38 ?_ | refine XK.gp hcs ok38 ?_ | refine XK.gs (DB false) ?_))
    exact ret _
end Go.Proofs.Ytclgjiffpijgmaa.CtD

namespace Go.Proofs.Ytclgjiffpijgmaa.fnIntegrity
open Go.ChangeShapes Go.WideShapes Go.ChangeAt Go.RowKit
open Go.ChangeMaps (open_string shut_string)

theorem own : ownKnob Try.prog.godebug = none := by kernel_rfl
theorem laidOut : laidOutB Try.prog = true := by kernel_rfl
theorem bytes5 : Try.prog.bytesOf 5 = 1 := by kernel_rfl

theorem lifted (os : Os) (started : os.Started) (H : Type) (enc : TypeId × Value → H) :
    ReturnsInHanded {} Try.checked os 10 .any (Rows.fnIntegritySpec.pre6 enc Try.prog Try.f10 Rows.fnIntegrityRow.domain false) (Rows.fnIntegritySpec.post enc Try.prog Try.f10 false true false false) := by
  refine returnsInHanded_of_change_sized (C := Try.checked) own started (by kernel_rfl) Try.func10
    (ChangeSpec.witness6 (enc := enc) (C := Try.checked) false ⟨#[], #[.slice none 0 0], []⟩ 8 (by kernel_rfl) (by kernel_rfl) (by kernel_rfl) (by kernel_rfl)) ?_
  intro W base args ds gs before hval0 hW hcnd hsz0 _
  have hval : ∀ (j : Nat) t v, Try.f10.params[j]? = some t → args[j]? = some v → Value.okWide Try.prog W .any base t v := hval0
  have hsz : (DataW.weightsEach Try.prog (Try.f10.params.toList ++ Rows.fnIntegritySpec.plain.varTypes Try.prog) (ds ++ gs)).all (· ≤ reachBytes) = true := hsz0
  have hW' := hW
  obtain ⟨p, q, hA0, hV, rfl, hfz, hnd⟩ := hW
  have hA : DataW.TrodAll enc Try.prog W 0 (fun _ => true) true Try.f10.params.toList args.toList ds p := hA0
  rw [Try.params10] at hA hval hsz
  obtain ⟨v0, vs0, d0, ds0, p0, q0, hargs, rfl, rfl, h0, r0⟩ := trodAll_cons hA
  obtain ⟨rfl, rfl, rfl⟩ := trodAll_nil r0
  obtain rfl : args = #[v0] := by cases args; simp_all
  obtain ⟨rfl, rfl⟩ := trodVars_none hV
  obtain ⟨a0, len0, cap0, rfl⟩ := okWide_slice Try.underlying22 (hval 0 22 v0 rfl rfl)
  have k0 := h0
  have lt0 : ∀ x ∈ p0, x.block < W.heap.size := by obtain ⟨m, hm⟩ := k0; exact DataW.trod_lt m _ _ _ hm
  obtain ⟨z0, w0, m0⟩ : ∃ zs, Go.CT.IsRow .u8 W a0 len0 cap0 zs ∧ len0 ≤ Go.CT.mx := by
    obtain ⟨fuel, hf⟩ := h0
    rcases open_ints Try.underlying22 Try.underlying5 (by kernel_rfl) hf with ⟨hcs, _⟩ | ⟨x, l, c, zs, hcs, _, hl, hm, hz, hx, hcell, hwz⟩
    · simp [Value.cells] at hcs
      obtain ⟨rfl, rfl, rfl⟩ := hcs
      exact ⟨[], .inl ⟨rfl, rfl, rfl, rfl⟩, Nat.zero_le _⟩
    · simp [Value.cells] at hcs
      obtain ⟨rfl, rfl, rfl⟩ := hcs
      simp only [Prod.mk.injEq] at hx
      obtain ⟨rfl, rfl⟩ := hx
      have hz' : zs.length = cap0 := by simpa using hz
      have := sized_slice hsz (j := 0) (t := 22) (e := 5) rfl rfl Try.underlying22
      rw [bytes5] at this
      simp only [lits, List.length_map, List.length_take, List.length_drop, reachBytes] at this
      have hmx := Go.CT.mx_eq
      exact ⟨zs, .inr ⟨_, rfl, hl, hz', hcell, hwz⟩, by omega⟩
  clear hA0 hval0 hsz0
  have hr0 := fun s => w0.rd (s := s) m0
  refine (Go.CT.DC.below (CtD.lawIN (z0.take len0) (hr0 fun _ => none).2.1 (by rw [(hr0 fun _ => none).2.2]; exact m0)) fun s => .one (hr0 s).1).mono fun e W' ⟨he, bel⟩ => ?_
  subst he
  exact ⟨_, rfl, _, _, _, [], _, [], hW', trodAll_mk1 (shut_bool Try.underlying4 _), (trodAll_cons_mk (Below.trod laidOut (by kernel_rfl) (of_decide_eq_true (by kernel_rfl)) k0 bel lt0) trodAll_mk0), rfl, bel.frame _, fun h => by cases h⟩

theorem over : Rows.fnIntegrityRow.holds Try.pinned (OpenSpec.ofChange Rows.fnIntegritySpec) :=
  OpenClaim.holds_of_wide 10 Try.f10 rfl rfl rfl rfl rfl rfl rfl ⟨rfl, rfl, rfl, rfl, rfl⟩ rfl rfl rfl rfl rfl (by kernel_rfl) Try.func10 (by kernel_rfl)
    (of_decide_eq_true (by kernel_rfl)) (by unfold Func.isWrapper; first | (rw [if_pos (by decide +kernel)]; kernel_rfl) | (rw [if_neg (by decide +kernel)]; exact ⟨rfl, rfl⟩))
    (fun os started H enc _ => lifted os started H enc)

theorem proved : Rows.FnIntegritySaid := over
#print axioms proved
end Go.Proofs.Ytclgjiffpijgmaa.fnIntegrity
