/- For every list of bytes, the Go function FnCompileReflect returns true, and its arguments read afterwards as before: the statement FnCompileReflectSaid. -/
import Derived.Test.YtjjjidcbokbhpaaRows
import Derived.WalkKit
import Derived.ProofKit
import Derived.OpenShut
import Derived.ShutString
import Derived.ChangeOld
import Derived.Below
import Derived.SizedLaws
import Derived.Test.YtjjjidcbokbhpaaNFacts
import Derived.Test.YtjjjidcbokbhpaaNAh
import Derived.Test.YtjjjidcbokbhpaaNAi
import Derived.Test.YtjjjidcbokbhpaaNAj
import Derived.Test.YtjjjidcbokbhpaaNAk
import Derived.Test.YtjjjidcbokbhpaaNAm
import Derived.Test.YtjjjidcbokbhpaaNAn
import Derived.Test.YtjjjidcbokbhpaaNAo
import Derived.Test.YtjjjidcbokbhpaaNAp
import Derived.Test.YtjjjidcbokbhpaaNAq
import Derived.Test.YtjjjidcbokbhpaaNAs
import Derived.Test.YtjjjidcbokbhpaaNAu
set_option linter.unusedVariables false
set_option linter.unusedSimpArgs false
set_option maxHeartbeats 16000000
set_option maxRecDepth 100000
namespace Go.Proofs.Ytjjjidcbokbhpaa.CtD
open Go Go.CT CtF CtR
open CtL (In Cd compP prj)

theorem refl_key {p : Pg} {a b : Mm} (h : progOK p = true) (hl : CtL.lenL 5 p.body + 1 ≤ 400) (ha : memOK p.vars p.arrays a = true) (hb : memOK p.vars p.arrays b = true) :
    (CtL.runC ⟨p.vars, p.arrays, CtL.compL p⟩ a).2.2 = true → (CtL.runC ⟨p.vars, p.arrays, CtL.compL p⟩ b).2.2 = true → trSame (CtL.runC ⟨p.vars, p.arrays, CtL.compL p⟩ a).2.1 (CtL.runC ⟨p.vars, p.arrays, CtL.compL p⟩ b).2.1 = true → trSame (runP p a).2.1 (runP p b).2.1 = true := fun h1 h2 he => by
  rw [trSame_iff] at he ⊢
  rw [CtL.comp_run h hl ha] at h1 he
  rw [CtL.comp_run h hl hb] at h2 he
  by_cases s1 : CtL.stp (CtL.xP p a) ≤ 20000
  · by_cases s2 : CtL.stp (CtL.xP p b) ≤ 20000
    · rw [if_pos s1, if_pos s2] at he
      rw [runP_of h ha, runP_of h hb]
      exact CtL.xP_refl h he
    · rw [if_neg s2] at h2; cases h2
  · rw [if_neg s1] at h1; cases h1
theorem lawCRefl (bs : List Int) (hb : Fits .u8 bs) (hl : bs.length ≤ mx) : DC Try.prog 4 [bytesD bs] [] (fun d h => d = DB true ∧ h = []) := by
  have hmx := mx_eq
  have hdr := drawTwoRuns bs hb hl
  unfold bytesD
  unfold bytesD at hdr
  have ret : ∀ hp : Hp, RetOb 0 (fun d h => d = DB true ∧ h = []) (DB true) hp := fun hp => RetOb.plain (d := DB true) ⟨rfl, rfl⟩ rfl
  generalize hRR : (fun (d : D) (h : List (Option (List C))) => d = DB true ∧ h = []) = R at ret ⊢
  by_cases hbig : 1048576 < bs.length
  · have hz : ((1048576 : Int) < (bs.length : Int)) = True := eq_true (by omega)
    refine dcZ Try.func4 ?_
    simp (maxSteps := 9999999) only [go_sem, hz]
    iterate 3 ((try (refine drvZ Try.func4 ?_; simp (maxSteps := 9999999) only [go_sem, hz])); (try ((with_reducible refine And.intro ?_ ?_) <;> (repeat' with_reducible apply And.intro) <;> try exact sd)))
    exact ret _
  have hz : ((1048576 : Int) < (bs.length : Int)) = False := eq_false (by omega)
  refine dcZ Try.func4 ?_
  simp (maxSteps := 9999999) only [go_sem, hz]
  iterate 3 ((try (refine drvZ Try.func4 ?_; simp (maxSteps := 9999999) only [go_sem, hz])); (try ((with_reducible refine And.intro ?_ ?_) <;> (repeat' with_reducible apply And.intro) <;> try exact sd)))
  refine XK.callG [] hdr ok8 (fun i' x h => by simp at h) (hbT ()) (fun d h' ⟨_, _, _, _, _, _, _, _, e⟩ => by subst e; simp) ?_
  rintro _ _ ⟨p, ma, mb, rfl, hp, hma, hmb, _, rfl⟩ _
  clear hdr
  have h1 := hp.nv
  have h2 := hp.na
  have h3 := hp.nb
  have hls := lsize_sm 2 5 p.body hp.sm
  have hls2 : p.body.length * 9 ^ 2 ≤ 4 * 9 ^ 2 := Nat.mul_le_mul_right _ h3
  have hci := compProgIA p (by omega) (by omega)
  have hcs := compProgS p (by omega) (by omega) (by omega)
  have hoa := memOK_of hma
  have hob := memOK_of hmb
  rcases compP_cases p with hc | ⟨hok, hlen, hc⟩
  · rw [hc] at hci hcs
    simp only [cdC, ints, List.map_nil] at hci hcs
    have hsame := codeSame ⟨[], [], []⟩ (by simp) (by simp) (by simp)
    simp only [cdC, ints, List.map_nil] at hsame
    obtain ⟨vs, ar, bd⟩ := p
    obtain ⟨va, arr⟩ := ma
    obtain ⟨wa, brr⟩ := mb
    iterate 14 ((try (refine drvZ Try.func4 ?_; simp (maxSteps := 9999999) only [go_sem, Mm.cells, trD, bne_self_eq_false, beq_self_eq_true])); (try ((with_reducible refine And.intro ?_ ?_) <;> (repeat' with_reducible apply And.intro) <;> try exact sd)); (try first | refine XK.p hci ok9 ?_ | refine XK.gp hci ok9 ?_ | refine XK.p hcs ok10 ?_ | refine XK.gp hcs ok10 ?_ | refine XK.p hsame ok11 ?_ | refine XK.gp hsame ok11 ?_))
    exact ret _
  · have hlc := CtL.compL_len hok
    have hpl := prog_len hok
    have hcv := CtL.comp_valid hok hlen
    rw [hc] at hci hcs
    have hsame := codeSame ⟨p.vars, p.arrays, CtL.compL p⟩ (by simp only; omega) (by simp only; omega) (by simp only; omega)
    simp only [cdC, ints] at hci hcs hsame
    have hr1 := runProgI p ma (by omega) (by omega)
    have hr2 := runProgI p mb (by omega) (by omega)
    have hs1 := runP_sm p ma
    have hs2 := runP_sm p mb
    have hx1 := runCodeI ⟨p.vars, p.arrays, CtL.compL p⟩ ma hcv
    have hx2 := runCodeI ⟨p.vars, p.arrays, CtL.compL p⟩ mb hcv
    have hl1 := runC_len ⟨p.vars, p.arrays, CtL.compL p⟩ ma
    have hl2 := runC_len ⟨p.vars, p.arrays, CtL.compL p⟩ mb
    have hb1 : (runP p ma).2.2 = true := by rw [runP_of hok hoa]
    have hb2 : (runP p mb).2.2 = true := by rw [runP_of hok hob]
    have key := refl_key hok hlen hoa hob
    generalize CtL.compL p = B at *
    generalize runP p ma = X1 at *
    generalize runP p mb = X2 at *
    generalize CtL.runC ⟨p.vars, p.arrays, B⟩ ma = Y1 at *
    generalize CtL.runC ⟨p.vars, p.arrays, B⟩ mb = Y2 at *
    obtain ⟨⟨u1, u2⟩, t1, b1⟩ := X1
    obtain ⟨⟨w1, w2⟩, t2, b2⟩ := X2
    obtain ⟨⟨x1, x2⟩, t3, b3⟩ := Y1
    obtain ⟨⟨y1, y2⟩, t4, b4⟩ := Y2
    simp only at hs1 hs2 hl1 hl2 hb1 hb2 key hr1 hr2 hx1 hx2
    subst hb1 hb2
    have hta := traceSame t1 t2 (by omega)
    have htb := traceSame t3 t4 (by omega)
    generalize trSame t1 t2 = g1 at *
    generalize trSame t3 t4 = g2 at *
    obtain ⟨vs, ar, bd⟩ := p
    obtain ⟨va, arr⟩ := ma
    obtain ⟨wa, brr⟩ := mb
    simp only [cdC, ints] at hx1 hx2
    cases b3 with
    | false =>
      iterate 40 ((try (refine drvZ Try.func4 ?_; simp (maxSteps := 9999999) only [go_sem, Mm.cells, trD, bne_self_eq_false, beq_self_eq_true])); (try ((with_reducible refine And.intro ?_ ?_) <;> (repeat' with_reducible apply And.intro) <;> try exact sd)); (try first | refine XK.p hci ok9 ?_ | refine XK.gp hci ok9 ?_ | refine XK.p hcs ok10 ?_ | refine XK.gp hcs ok10 ?_ | refine XK.p hsame ok11 ?_ | refine XK.gp hsame ok11 ?_ | refine XK.p hr1 ok12 ?_ | refine XK.gp hr1 ok12 ?_ | refine XK.p hr2 ok12 ?_ | refine XK.gp hr2 ok12 ?_ | refine XK.p hx1 ok13 ?_ | refine XK.gp hx1 ok13 ?_ | refine XK.p hx2 ok13 ?_ | refine XK.gp hx2 ok13 ?_ | refine XK.p hta ok14 ?_ | refine XK.gp hta ok14 ?_ | refine XK.p htb ok14 ?_ | refine XK.gp htb ok14 ?_))
      exact ret _
    | true =>
      cases b4 with
      | false =>
        iterate 40 ((try (refine drvZ Try.func4 ?_; simp (maxSteps := 9999999) only [go_sem, Mm.cells, trD, bne_self_eq_false, beq_self_eq_true])); (try ((with_reducible refine And.intro ?_ ?_) <;> (repeat' with_reducible apply And.intro) <;> try exact sd)); (try first | refine XK.p hci ok9 ?_ | refine XK.gp hci ok9 ?_ | refine XK.p hcs ok10 ?_ | refine XK.gp hcs ok10 ?_ | refine XK.p hsame ok11 ?_ | refine XK.gp hsame ok11 ?_ | refine XK.p hr1 ok12 ?_ | refine XK.gp hr1 ok12 ?_ | refine XK.p hr2 ok12 ?_ | refine XK.gp hr2 ok12 ?_ | refine XK.p hx1 ok13 ?_ | refine XK.gp hx1 ok13 ?_ | refine XK.p hx2 ok13 ?_ | refine XK.gp hx2 ok13 ?_ | refine XK.p hta ok14 ?_ | refine XK.gp hta ok14 ?_ | refine XK.p htb ok14 ?_ | refine XK.gp htb ok14 ?_))
        exact ret _
      | true =>
        cases g2 with
        | false =>
          iterate 40 ((try (refine drvZ Try.func4 ?_; simp (maxSteps := 9999999) only [go_sem, Mm.cells, trD, bne_self_eq_false, beq_self_eq_true])); (try ((with_reducible refine And.intro ?_ ?_) <;> (repeat' with_reducible apply And.intro) <;> try exact sd)); (try first | refine XK.p hci ok9 ?_ | refine XK.gp hci ok9 ?_ | refine XK.p hcs ok10 ?_ | refine XK.gp hcs ok10 ?_ | refine XK.p hsame ok11 ?_ | refine XK.gp hsame ok11 ?_ | refine XK.p hr1 ok12 ?_ | refine XK.gp hr1 ok12 ?_ | refine XK.p hr2 ok12 ?_ | refine XK.gp hr2 ok12 ?_ | refine XK.p hx1 ok13 ?_ | refine XK.gp hx1 ok13 ?_ | refine XK.p hx2 ok13 ?_ | refine XK.gp hx2 ok13 ?_ | refine XK.p hta ok14 ?_ | refine XK.gp hta ok14 ?_ | refine XK.p htb ok14 ?_ | refine XK.gp htb ok14 ?_))
          exact ret _
        | true =>
          have e1 := key rfl rfl rfl
          subst e1
          iterate 40 ((try (refine drvZ Try.func4 ?_; simp (maxSteps := 9999999) only [go_sem, Mm.cells, trD, bne_self_eq_false, beq_self_eq_true])); (try ((with_reducible refine And.intro ?_ ?_) <;> (repeat' with_reducible apply And.intro) <;> try exact sd)); (try first | refine XK.p hci ok9 ?_ | refine XK.gp hci ok9 ?_ | refine XK.p hcs ok10 ?_ | refine XK.gp hcs ok10 ?_ | refine XK.p hsame ok11 ?_ | refine XK.gp hsame ok11 ?_ | refine XK.p hr1 ok12 ?_ | refine XK.gp hr1 ok12 ?_ | refine XK.p hr2 ok12 ?_ | refine XK.gp hr2 ok12 ?_ | refine XK.p hx1 ok13 ?_ | refine XK.gp hx1 ok13 ?_ | refine XK.p hx2 ok13 ?_ | refine XK.gp hx2 ok13 ?_ | refine XK.p hta ok14 ?_ | refine XK.gp hta ok14 ?_ | refine XK.p htb ok14 ?_ | refine XK.gp htb ok14 ?_))
          exact ret _
end Go.Proofs.Ytjjjidcbokbhpaa.CtD

namespace Go.Proofs.Ytjjjidcbokbhpaa.fnCompileReflect
open Go.ChangeShapes Go.WideShapes Go.ChangeAt Go.RowKit
open Go.ChangeMaps (open_string shut_string)

theorem own : ownKnob Try.prog.godebug = none := by kernel_rfl
theorem laidOut : laidOutB Try.prog = true := by kernel_rfl
theorem bytes5 : Try.prog.bytesOf 5 = 1 := by kernel_rfl

theorem lifted (os : Os) (started : os.Started) (H : Type) (enc : TypeId × Value → H) :
    ReturnsInHanded {} Try.checked os 4 .any (Rows.fnCompileReflectSpec.pre6 enc Try.prog Try.f4 Rows.fnCompileReflectRow.domain false) (Rows.fnCompileReflectSpec.post enc Try.prog Try.f4 false true false false) := by
  refine returnsInHanded_of_change_sized (C := Try.checked) own started (by kernel_rfl) Try.func4
    (ChangeSpec.witness6 (enc := enc) (C := Try.checked) false ⟨#[], #[.slice none 0 0], []⟩ 8 (by kernel_rfl) (by kernel_rfl) (by kernel_rfl) (by kernel_rfl)) ?_
  intro W base args ds gs before hval0 hW hcnd hsz0 _
  have hval : ∀ (j : Nat) t v, Try.f4.params[j]? = some t → args[j]? = some v → Value.okWide Try.prog W .any base t v := hval0
  have hsz : (DataW.weightsEach Try.prog (Try.f4.params.toList ++ Rows.fnCompileReflectSpec.plain.varTypes Try.prog) (ds ++ gs)).all (· ≤ reachBytes) = true := hsz0
  have hW' := hW
  obtain ⟨p, q, hA0, hV, rfl, hfz, hnd⟩ := hW
  have hA : DataW.TrodAll enc Try.prog W 0 (fun _ => true) true Try.f4.params.toList args.toList ds p := hA0
  rw [Try.params4] at hA hval hsz
  obtain ⟨v0, vs0, d0, ds0, p0, q0, hargs, rfl, rfl, h0, r0⟩ := trodAll_cons hA
  obtain ⟨rfl, rfl, rfl⟩ := trodAll_nil r0
  obtain rfl : args = #[v0] := by cases args; simp_all
  obtain ⟨rfl, rfl⟩ := trodVars_none hV
  obtain ⟨a0, len0, cap0, rfl⟩ := okWide_slice Try.underlying22 (hval 0 22 v0 rfl rfl)
  have k0 := h0
  have lt0 : ∀ x ∈ p0, x.block < W.heap.size := by obtain ⟨m, hm⟩ := k0; exact DataW.trod_lt m _ _ _ hm
  obtain ⟨z0, w0, m0⟩ : ∃ zs, Go.CT.IsRow .u8 W a0 len0 cap0 zs ∧ len0 ≤ Go.CT.mx := by
    obtain ⟨fuel, hf⟩ := h0
    rcases open_ints Try.underlying22 Try.underlying5 (by kernel_rfl) hf with ⟨hcs, _⟩ | ⟨x, l, c, zs, hcs, _, hl, hm, hz, hx, hcell, hwz⟩
    · simp [Value.cells] at hcs
      obtain ⟨rfl, rfl, rfl⟩ := hcs
      exact ⟨[], .inl ⟨rfl, rfl, rfl, rfl⟩, Nat.zero_le _⟩
    · simp [Value.cells] at hcs
      obtain ⟨rfl, rfl, rfl⟩ := hcs
      simp only [Prod.mk.injEq] at hx
      obtain ⟨rfl, rfl⟩ := hx
      have hz' : zs.length = cap0 := by simpa using hz
      have := sized_slice hsz (j := 0) (t := 22) (e := 5) rfl rfl Try.underlying22
      rw [bytes5] at this
      simp only [lits, List.length_map, List.length_take, List.length_drop, reachBytes] at this
      have hmx := Go.CT.mx_eq
      exact ⟨zs, .inr ⟨_, rfl, hl, hz', hcell, hwz⟩, by omega⟩
  clear hA0 hval0 hsz0
  have hr0 := fun s => w0.rd (s := s) m0
  refine (Go.CT.DC.below (CtD.lawCRefl (z0.take len0) (hr0 fun _ => none).2.1 (by rw [(hr0 fun _ => none).2.2]; exact m0)) fun s => .one (hr0 s).1).mono fun e W' ⟨he, bel⟩ => ?_
  subst he
  exact ⟨_, rfl, _, _, _, [], _, [], hW', trodAll_mk1 (shut_bool Try.underlying4 _), (trodAll_cons_mk (Below.trod laidOut (by kernel_rfl) (of_decide_eq_true (by kernel_rfl)) k0 bel lt0) trodAll_mk0), rfl, bel.frame _, fun h => by cases h⟩

theorem hfn : Try.pinned.checked.prog.funcNamed Rows.fnCompileReflectRow.func = some 4 := by kernel_rfl
theorem hcl : joinedFacts Try.pinned.checked.prog 4 Try.f4 Rows.fnCompileReflectSpec Rows.fnCompileReflectRow = true := by kernel_rfl
theorem hin : Try.f4.isInstance Try.pinned.checked.prog Rows.fnCompileReflectRow.origin Rows.fnCompileReflectRow.targs := of_decide_eq_true (by kernel_rfl)
theorem hwr : Try.f4.isWrapper Try.pinned.checked.prog Rows.fnCompileReflectRow.wrapper Rows.fnCompileReflectRow.mainSum := by unfold Func.isWrapper; first | (rw [if_pos (by decide +kernel)]; kernel_rfl) | (rw [if_neg (by decide +kernel)]; exact ⟨rfl, rfl⟩)
theorem over : Rows.fnCompileReflectRow.holds Try.pinned (OpenSpec.ofChange Rows.fnCompileReflectSpec) :=
  OpenClaim.holds_of_wide 4 Try.f4 rfl rfl rfl rfl rfl rfl rfl ⟨rfl, rfl, rfl, rfl, rfl⟩ rfl rfl rfl rfl rfl hfn Try.func4 hcl hin hwr
    (fun os started H enc _ => lifted os started H enc)

theorem proved : Rows.FnCompileReflectSaid := over
#print axioms proved
end Go.Proofs.Ytjjjidcbokbhpaa.fnCompileReflect
