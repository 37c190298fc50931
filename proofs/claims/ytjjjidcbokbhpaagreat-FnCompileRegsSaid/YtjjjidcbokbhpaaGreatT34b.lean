/- For every list of bytes, the Go function FnCompileRegs returns true, and its arguments read afterwards as before: the statement FnCompileRegsSaid. -/
import Derived.Test.YtjjjidcbokbhpaaGreatChecked
import Derived.KernelRfl
import Derived.Test.YtjjjidcbokbhpaaGreatRows
import Derived.WalkKit
import Derived.ProofKit
import Derived.OpenShut
import Derived.ShutString
import Derived.ChangeOld
import Derived.Below
import Derived.SizedLaws
import Derived.Test.YtjjjidcbokbhpaaGreatKAh
import Derived.Test.YtjjjidcbokbhpaaGreatKFacts
import Derived.Test.YtjjjidcbokbhpaaGreatKAu
import Derived.Test.YtjjjidcbokbhpaaGreatKAo
import Derived.Test.YtjjjidcbokbhpaaGreatKAm
set_option linter.unusedVariables false
set_option linter.unusedSimpArgs false
set_option maxHeartbeats 16000000
set_option maxRecDepth 100000
namespace Go.Proofs.YtjjjidcbokbhpaaGreat.CtF
open Go Go.CT
theorem ok4 : fnOK Tryz.prog 4 = true := by kernel_rfl
attribute [go_sem] Tryz.f4
end Go.Proofs.YtjjjidcbokbhpaaGreat.CtF

namespace Go.Proofs.YtjjjidcbokbhpaaGreat.CtD
open Go Go.CT CtF CtR
open CtL (In Cd compP prj)

theorem lawCRegs (bs : List Int) (hb : Fits .u8 bs) (hl : bs.length ≤ mx) : DC Tryz.prog 4 [bytesD bs] [] (fun d h => d = DB true ∧ h = []) := by
  have hmx := mx_eq
  have hdr := drawRunProgram bs hb hl
  unfold bytesD
  unfold bytesD at hdr
  have ret : ∀ hp : Hp, RetOb 0 (fun d h => d = DB true ∧ h = []) (DB true) hp := fun hp => RetOb.plain (d := DB true) ⟨rfl, rfl⟩ rfl
  generalize hRR : (fun (d : D) (h : List (Option (List C))) => d = DB true ∧ h = []) = R at ret ⊢
  by_cases hbig : 1048576 < bs.length
  · have hz : ((1048576 : Int) < (bs.length : Int)) = True := eq_true (by omega)
    refine dcZ Tryz.func4 ?_
    simp (maxSteps := 9999999) only [go_sem, hz]
    iterate 3 ((try (refine drvZ Tryz.func4 ?_; simp (maxSteps := 9999999) only [go_sem, hz])); (try ((with_reducible refine And.intro ?_ ?_) <;> (repeat' with_reducible apply And.intro) <;> try exact sd)))
    exact ret _
  have hz : ((1048576 : Int) < (bs.length : Int)) = False := eq_false (by omega)
  refine dcZ Tryz.func4 ?_
  simp (maxSteps := 9999999) only [go_sem, hz]
  iterate 3 ((try (refine drvZ Tryz.func4 ?_; simp (maxSteps := 9999999) only [go_sem, hz])); (try ((with_reducible refine And.intro ?_ ?_) <;> (repeat' with_reducible apply And.intro) <;> try exact sd)))
  refine XK.callG [] hdr ok11 (fun i' x h => by simp at h) (hbT ()) (fun d h' ⟨_, _, _, _, _, e⟩ => by subst e; simp) ?_
  rintro _ _ ⟨p, m, rfl, hp, hm, rfl⟩ _
  clear hdr
  have h1 := hp.nv
  have h2 := hp.na
  have h3 := hp.nb
  have h4 := hp.sz 5
  have hci := compProgIA p (by omega) (by omega)
  have hcs := compProgS p (by omega) (by omega) (by omega)
  have hrn := runProgI p m (by omega) (by omega)
  have hsm := runP_sm p m
  rcases compP_cases p with hc | ⟨hok, hlen, hc⟩
  · rw [hc] at hci hcs
    simp only [cdC, ints, List.map_nil] at hci hcs
    have hsame := codeSame ⟨[], [], []⟩ (by simp) (by simp) (by simp)
    simp only [cdC, ints, List.map_nil] at hsame
    generalize runP p m = X1 at *
    obtain ⟨⟨u1, u2⟩, t1, b1⟩ := X1
    obtain ⟨vs, ar, bd⟩ := p
    obtain ⟨va, arr⟩ := m
    iterate 14 ((try (refine drvZ Tryz.func4 ?_; simp (maxSteps := 9999999) only [go_sem, Mm.cells, trD, bne_self_eq_false, beq_self_eq_true])); (try ((with_reducible refine And.intro ?_ ?_) <;> (repeat' with_reducible apply And.intro) <;> try exact sd)); (try first | refine XK.p hci ok20 ?_ | refine XK.gp hci ok20 ?_ | refine XK.p hcs ok21 ?_ | refine XK.gp hcs ok21 ?_ | refine XK.p hrn ok15 ?_ | refine XK.gp hrn ok15 ?_ | refine XK.p hsame ok22 ?_ | refine XK.gp hsame ok22 ?_))
    exact ret _
  · have hlc := CtL.compL_len hok
    have hpl := prog_len hok
    have hcv := CtL.comp_valid hok hlen
    rw [hc] at hci hcs
    have hsame := codeSame ⟨p.vars, p.arrays, CtL.compL p⟩ (by simp only; omega) (by simp only; omega) (by simp only; omega)
    simp only [cdC, ints] at hci hcs hsame
    have hrc := runCodeI ⟨p.vars, p.arrays, CtL.compL p⟩ m hcv
    have hloop := fun x hx => (CtL.compL_good hok x hx).2
    have hcl := @comp_law p m hok hlen
    have hrt := @runP_of p m hok
    have hrf : memOK p.vars p.arrays m = false → runP p m = (⟨[], []⟩, [], false) := fun h => runP_false (by rw [h, Bool.and_false])
    have hrcf : memOK p.vars p.arrays m = false → CtL.runC ⟨p.vars, p.arrays, CtL.compL p⟩ m = (⟨[], []⟩, [], false) := fun h => runC_memF h
    generalize CtL.compL p = B at *
    obtain ⟨vs, ar, bd⟩ := p
    obtain ⟨va, arr⟩ := m
    iterate 12 ((try (refine drvZ Tryz.func4 ?_; simp (maxSteps := 9999999) only [go_sem, Mm.cells, trD, bne_self_eq_false, beq_self_eq_true])); (try ((with_reducible refine And.intro ?_ ?_) <;> (repeat' with_reducible apply And.intro) <;> try exact sd)); (try first | refine XK.p hci ok20 ?_ | refine XK.gp hci ok20 ?_ | refine XK.p hcs ok21 ?_ | refine XK.gp hcs ok21 ?_ | refine XK.p hsame ok22 ?_ | refine XK.gp hsame ok22 ?_))
    refine Go.loopQ (fun i : Nat => [(2, DB false), (3, .c (.ptr 0 0)), (4, .c (.ptr 1 0)), (5, .c (.ptr 2 0)), (9, DI .i64 i)])
      (fun _ => [(0, some [.isl 1 (vs.map fun n => [I64 n]), .isl 1 (ar.map fun n => [I64 n]), .isl 11 (St1.cellsL bd)]), (1, some [.isl 1 (va.map fun n => [I64 n]), .isl 1 (arr.map fun a => [.isl 1 (a.map fun n => [I64 n])])]), (2, some [.isl 1 (vs.map fun n => [I64 n]), .isl 1 (ar.map fun n => [I64 n]), .isl 5 (B.map inX)])])
      8192 (fun i => i ≤ B.length) (fun i => B.length - i) ?_ 0 (fun j => if j = 0 then some 576 else if j = 1 then some 640 else some 1152) [] _ (Nat.zero_le _) ?_
    · intro i hi again
      rcases Nat.lt_or_ge i B.length with hlt | hge
      · obtain ⟨x, hx⟩ : ∃ x, B[i]? = some x := ⟨B[i], by simp [hlt]⟩
        have hxl := hloop x (List.mem_of_getElem? hx)
        obtain ⟨op, a, b, c, d⟩ := x
        simp only at hxl
        by_cases h10 : op = 10
        · have h9 : (a < 9) = False := eq_false (by have := hxl h10; omega)
          subst h10
          refine drvL Tryz.func4 ?_
          simp (maxSteps := 9999999) only [go_sem, hx, hlt, inX, h9]
          iterate 4 ((try (refine drvZ Tryz.func4 ?_; simp (maxSteps := 9999999) only [go_sem, hx, hlt, inX, h9, beq_self_eq_true])); (try ((with_reducible refine And.intro ?_ ?_) <;> (repeat' with_reducible apply And.intro) <;> try exact sd)))
          refine again (i + 1) some [] _ hlt (by omega) ?_
          simp (maxSteps := 9999999) only [go_sem, TmOK, DM, DMs, CM, CMs, forall_eq, exists_eq_left, Mq, HpOK, LowOK]
          try simp
        · have h10' : (op == 10) = false := by simp [h10]
          refine drvL Tryz.func4 ?_
          simp (maxSteps := 9999999) only [go_sem, hx, hlt, inX, h10']
          iterate 4 ((try (refine drvZ Tryz.func4 ?_; simp (maxSteps := 9999999) only [go_sem, hx, hlt, inX, h10', h10])); (try ((with_reducible refine And.intro ?_ ?_) <;> (repeat' with_reducible apply And.intro) <;> try exact sd)))
          refine again (i + 1) some [] _ hlt (by omega) ?_
          simp (maxSteps := 9999999) only [go_sem, TmOK, DM, DMs, CM, CMs, forall_eq, exists_eq_left, Mq, HpOK, LowOK]
          try simp
      · have hn : ¬ i < B.length := by omega
        refine drvL Tryz.func4 ?_
        simp (maxSteps := 9999999) only [go_sem, hn]
        iterate 3 ((try (refine drvZ Tryz.func4 ?_; simp (maxSteps := 9999999) only [go_sem, hn])); (try ((with_reducible refine And.intro ?_ ?_) <;> (repeat' with_reducible apply And.intro) <;> try exact sd)))
        cases hmo : memOK vs ar ⟨va, arr⟩ with
        | false =>
          rw [hrf hmo] at hrn
          rw [hrcf hmo] at hrc
          have hms := memorySame ⟨[], []⟩ ⟨[], []⟩ (by simp) (by simp) (by simp)
          rw [memSame_refl] at hms
          simp only [cdC, ints] at hrc
          iterate 26 ((try (refine drvZ Tryz.func4 ?_; simp (maxSteps := 9999999) only [go_sem, Mm.cells, trD, bne_self_eq_false, beq_self_eq_true])); (try ((with_reducible refine And.intro ?_ ?_) <;> (repeat' with_reducible apply And.intro) <;> try exact sd)); (try first | refine XK.p hrn ok15 ?_ | refine XK.gp hrn ok15 ?_ | refine XK.p hrc ok23 ?_ | refine XK.gp hrc ok23 ?_ | refine XK.p hms ok17 ?_ | refine XK.gp hms ok17 ?_))
          exact ret _
        | true =>
          have hb1 : (runP ⟨vs, ar, bd⟩ ⟨va, arr⟩).2.2 = true := by rw [hrt hmo]
          replace hcl := hcl hmo
          generalize runP ⟨vs, ar, bd⟩ ⟨va, arr⟩ = X1 at *
          clear hrt hrf
          obtain ⟨⟨u1, u2⟩, t1, b1⟩ := X1
          simp only at hsm hcl hb1 hrn
          subst hb1
          rcases hcl with ⟨_, hr, hx⟩ | ⟨_, hr⟩
          · rw [hr] at hrc
            have hms := memorySame ⟨u1, u2⟩ ⟨u1, u2⟩ (by simp only; omega) (by simp only; omega) (fun a h => by have := hsm.2.2.1 a h; omega)
            rw [memSame_refl] at hms
            simp only [cdC, ints] at hrc
            generalize CtL.xP ⟨vs, ar, bd⟩ ⟨va, arr⟩ = T at *
            iterate 26 ((try (refine drvZ Tryz.func4 ?_; simp (maxSteps := 9999999) only [go_sem, Mm.cells, trD, bne_self_eq_false, beq_self_eq_true])); (try ((with_reducible refine And.intro ?_ ?_) <;> (repeat' with_reducible apply And.intro) <;> try exact sd)); (try first | refine XK.p hrn ok15 ?_ | refine XK.gp hrn ok15 ?_ | refine XK.p hrc ok23 ?_ | refine XK.gp hrc ok23 ?_ | refine XK.p hms ok17 ?_ | refine XK.gp hms ok17 ?_))
            exact ret _
          · rw [hr] at hrc
            have hms := memorySame ⟨[], []⟩ ⟨u1, u2⟩ (by simp) (by simp) (by simp)
            generalize memSame ⟨[], []⟩ ⟨u1, u2⟩ = g1 at hms
            simp only [cdC, ints] at hrc
            iterate 26 ((try (refine drvZ Tryz.func4 ?_; simp (maxSteps := 9999999) only [go_sem, Mm.cells, trD, bne_self_eq_false, beq_self_eq_true])); (try ((with_reducible refine And.intro ?_ ?_) <;> (repeat' with_reducible apply And.intro) <;> try exact sd)); (try first | refine XK.p hrn ok15 ?_ | refine XK.gp hrn ok15 ?_ | refine XK.p hrc ok23 ?_ | refine XK.gp hrc ok23 ?_ | refine XK.p hms ok17 ?_ | refine XK.gp hms ok17 ?_))
            exact ret _
    · simp (maxSteps := 9999999) only [go_sem, TmOK, DM, DMs, CM, CMs, forall_eq, exists_eq_left, Mq, HpOK, LowOK]
      simp [upd, hOf, hpL, inX]
end Go.Proofs.YtjjjidcbokbhpaaGreat.CtD

namespace Go.Proofs.YtjjjidcbokbhpaaGreat.fnCompileRegs
open Go.ChangeShapes Go.WideShapes Go.ChangeAt Go.RowKit
open Go.ChangeMaps (open_string shut_string)

theorem own : ownKnob Tryz.prog.godebug = none := by kernel_rfl
theorem laidOut : laidOutB Tryz.prog = true := by kernel_rfl
theorem bytes5 : Tryz.prog.bytesOf 5 = 1 := by kernel_rfl

theorem lifted (os : Os) (started : os.Started) (H : Type) (enc : TypeId × Value → H) :
    ReturnsInHanded {} Tryz.checked os 4 .any (Rows.fnCompileRegsSpec.pre6 enc Tryz.prog Tryz.f4 Rows.fnCompileRegsRow.domain false) (Rows.fnCompileRegsSpec.post enc Tryz.prog Tryz.f4 false true false false) := by
  refine returnsInHanded_of_change_sized (C := Tryz.checked) own started (by kernel_rfl) Tryz.func4
    (ChangeSpec.witness6 (enc := enc) (C := Tryz.checked) false ⟨#[], #[.slice none 0 0], []⟩ 8 (by kernel_rfl) (by kernel_rfl) (by kernel_rfl) (by kernel_rfl)) ?_
  intro W base args ds gs before hval0 hW hcnd hsz0 _
  have hval : ∀ (j : Nat) t v, Tryz.f4.params[j]? = some t → args[j]? = some v → Value.okWide Tryz.prog W .any base t v := hval0
  have hsz : (DataW.weightsEach Tryz.prog (Tryz.f4.params.toList ++ Rows.fnCompileRegsSpec.plain.varTypes Tryz.prog) (ds ++ gs)).all (· ≤ reachBytes) = true := hsz0
  have hW' := hW
  obtain ⟨p, q, hA0, hV, rfl, hfz, hnd⟩ := hW
  have hA : DataW.TrodAll enc Tryz.prog W 0 (fun _ => true) true Tryz.f4.params.toList args.toList ds p := hA0
  rw [Tryz.params4] at hA hval hsz
  obtain ⟨v0, vs0, d0, ds0, p0, q0, hargs, rfl, rfl, h0, r0⟩ := trodAll_cons hA
  obtain ⟨rfl, rfl, rfl⟩ := trodAll_nil r0
  obtain rfl : args = #[v0] := by cases args; simp_all
  obtain ⟨rfl, rfl⟩ := trodVars_none hV
  obtain ⟨a0, len0, cap0, rfl⟩ := okWide_slice Tryz.underlying22 (hval 0 22 v0 rfl rfl)
  have k0 := h0
  have lt0 : ∀ x ∈ p0, x.block < W.heap.size := by obtain ⟨m, hm⟩ := k0; exact DataW.trod_lt m _ _ _ hm
  obtain ⟨z0, w0, m0⟩ : ∃ zs, Go.CT.IsRow .u8 W a0 len0 cap0 zs ∧ len0 ≤ Go.CT.mx := by
    obtain ⟨fuel, hf⟩ := h0
    rcases open_ints Tryz.underlying22 Tryz.underlying5 (by kernel_rfl) hf with ⟨hcs, _⟩ | ⟨x, l, c, zs, hcs, _, hl, hm, hz, hx, hcell, hwz⟩
    · simp [Value.cells] at hcs
      obtain ⟨rfl, rfl, rfl⟩ := hcs
      exact ⟨[], .inl ⟨rfl, rfl, rfl, rfl⟩, Nat.zero_le _⟩
    · simp [Value.cells] at hcs
      obtain ⟨rfl, rfl, rfl⟩ := hcs
      simp only [Prod.mk.injEq] at hx
      obtain ⟨rfl, rfl⟩ := hx
      have hz' : zs.length = cap0 := by simpa using hz
      have := sized_slice hsz (j := 0) (t := 22) (e := 5) rfl rfl Tryz.underlying22
      rw [bytes5] at this
      simp only [lits, List.length_map, List.length_take, List.length_drop, reachBytes] at this
      have hmx := Go.CT.mx_eq
      exact ⟨zs, .inr ⟨_, rfl, hl, hz', hcell, hwz⟩, by omega⟩
  clear hA0 hval0 hsz0
  have hr0 := fun s => w0.rd (s := s) m0
  refine (Go.CT.DC.below (CtD.lawCRegs (z0.take len0) (hr0 fun _ => none).2.1 (by rw [(hr0 fun _ => none).2.2]; exact m0)) fun s => .one (hr0 s).1).mono fun e W' ⟨he, bel⟩ => ?_
  subst he
  exact ⟨_, rfl, _, _, _, [], _, [], hW', trodAll_mk1 (shut_bool Tryz.underlying4 _), (trodAll_cons_mk (Below.trod laidOut (by kernel_rfl) (of_decide_eq_true (by kernel_rfl)) k0 bel lt0) trodAll_mk0), rfl, bel.frame _, fun h => by cases h⟩

theorem hfn : Tryz.pinned.checked.prog.funcNamed Rows.fnCompileRegsRow.func = some 4 := by kernel_rfl
theorem hcl : joinedFacts Tryz.pinned.checked.prog 4 Tryz.f4 Rows.fnCompileRegsSpec Rows.fnCompileRegsRow = true := by kernel_rfl
theorem hin : Tryz.f4.isInstance Tryz.pinned.checked.prog Rows.fnCompileRegsRow.origin Rows.fnCompileRegsRow.targs := of_decide_eq_true (by kernel_rfl)
theorem hwr : Tryz.f4.isWrapper Tryz.pinned.checked.prog Rows.fnCompileRegsRow.wrapper Rows.fnCompileRegsRow.mainSum := by unfold Func.isWrapper; first | (rw [if_pos (by decide +kernel)]; kernel_rfl) | (rw [if_neg (by decide +kernel)]; exact ⟨rfl, rfl⟩)
theorem over : Rows.fnCompileRegsRow.holds Tryz.pinned (OpenSpec.ofChange Rows.fnCompileRegsSpec) :=
  OpenClaim.holds_of_wide 4 Tryz.f4 rfl rfl rfl rfl rfl rfl rfl ⟨rfl, rfl, rfl, rfl, rfl⟩ rfl rfl rfl rfl rfl hfn Tryz.func4 hcl hin hwr
    (fun os started H enc _ => lifted os started H enc)

theorem proved : Rows.FnCompileRegsSaid := over
#print axioms proved
end Go.Proofs.YtjjjidcbokbhpaaGreat.fnCompileRegs
