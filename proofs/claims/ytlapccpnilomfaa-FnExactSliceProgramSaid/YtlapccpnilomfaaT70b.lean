/- For every argument that the claim allows, the Go function FnExactSliceProgram returns true, and its arguments read afterwards as before: the statement FnExactSliceProgramSaid. -/
import Derived.Test.YtlapccpnilomfaaRows
import Derived.WalkKit
import Derived.ProofKit
import Derived.OpenShut
import Derived.ShutString
import Derived.ChangeOld
import Derived.Below
import Derived.SizedLaws
import Derived.Test.YtlapccpnilomfaaJAy
set_option linter.unusedVariables false
set_option linter.unusedSimpArgs false
set_option linter.unusedSectionVars false
set_option maxHeartbeats 16000000
set_option maxRecDepth 100000
namespace Go.Proofs.Ytlapccpnilomfaa.fnExactSliceProgram
open Go.ChangeShapes Go.WideShapes Go.ChangeAt Go.RowKit
open Go.ChangeMaps (open_string shut_string)
theorem own:ownKnob Try.prog.godebug=none:=by kernel_rfl
theorem laidOut:laidOutB Try.prog=true:=by kernel_rfl
theorem lifted (os : Os) (started : os.Started) (H : Type) (enc : TypeId × Value → H) :
 ReturnsInHanded {} Try.checked os 3 .any (Rows.fnExactSliceProgramSpec.pre6 enc Try.prog Try.f3 Rows.fnExactSliceProgramRow.domain false) (Rows.fnExactSliceProgramSpec.post enc Try.prog Try.f3 false true false false):=by
 refine returnsInHanded_of_change_sized (C := Try.checked) own started (by kernel_rfl) Try.func3
  (ChangeSpec.witness6 (enc:=enc) (C:=Try.checked) false ⟨#[],#[.agg #[.slice none 0 0,.slice none 0 0,.slice none 0 0],.slice none 0 0],[]⟩ 8 (by kernel_rfl) (by kernel_rfl) (by kernel_rfl) (by kernel_rfl)) ?_
 intro W base args ds gs before hval0 hW hcnd hsz0 _
 letI:Go.CT.Yn:=⟨W.heap.size,fun b=>W.heap[b]?⟩
 have hval:∀ (j:Nat) t v,Try.f3.params[j]? = some t→args[j]? = some v→Value.okWide Try.prog W .any base t v:=hval0
 have hsz:(DataW.weightsEach Try.prog (Try.f3.params.toList++Rows.fnExactSliceProgramSpec.plain.varTypes Try.prog) (ds++gs)).all (·≤reachBytes)=true:=hsz0
 have hW':=hW
 obtain ⟨p,q,hA0,hV,rfl,hfz,hnd⟩:=hW
 have hA:DataW.TrodAll enc Try.prog W 0 (fun _=>true) true Try.f3.params.toList args.toList ds p:=hA0
 rw [Try.params3] at hA hval hsz
 obtain ⟨v0,vs0,d0,ds0,p0,q0,hargs,rfl,rfl,h0,r0⟩:=trodAll_cons hA
 obtain ⟨v1,vs1,d1,ds1,p1,q1,rfl,rfl,rfl,h1,r1⟩:=trodAll_cons r0
 obtain ⟨rfl,rfl,rfl⟩:=trodAll_nil r1
 obtain rfl:args=#[v0,v1]:=by cases args;simp_all
 obtain ⟨rfl,rfl⟩:=trodVars_none hV
 have k0:=h0
 have lt0:∀ x ∈ p0,x.block<W.heap.size:=by obtain ⟨m,hm⟩:=k0;exact DataW.trod_lt m _ _ _ hm
 obtain ⟨fu0,hf0⟩:=h0
 obtain ⟨ks0,rc0,sh0⟩:=Go.CT.trod_sh CtD.clXP fu0 25 _ _ (by simp [CtD.TXP]) hf0 fun n hn=>by
  have:=List.all_eq_true.1 hsz n (DataW.weights_mem_each (j:=0) rfl rfl n hn)
  simpa using this
 obtain ⟨x0,rfl,b0⟩:=CtD.sh_prog sh0
 have hr0:=fun s=>Go.CT.RD.of_cells (s:=s) rc0 (by first | exact (by decide:(3:Nat) ≠ 1) | exact (by decide:(2:Nat) ≠ 1))
 obtain ⟨a1,len1,cap1,rfl⟩:=okWide_slice Try.underlying26 (hval 1 26 v1 rfl rfl)
 have k1:=h1
 have lt1:∀ x ∈ p1,x.block<W.heap.size:=by obtain ⟨m,hm⟩:=k1;exact DataW.trod_lt m _ _ _ hm
 obtain ⟨fu1,hf1⟩:=h1
 obtain ⟨ks1,rc1,sh1⟩:=Go.CT.trod_sh CtD.clXB fu1 26 _ _ (by simp [CtD.TXB]) hf1 fun n hn=>by
  have:=List.all_eq_true.1 hsz n (DataW.weights_mem_each (j:=1) rfl rfl n hn)
  simpa using this
 obtain ⟨x1,rfl,b1⟩:=CtD.sh_bools sh1
 have hr1:=fun s=>CtD.rd_of_slice (s:=s) rc1
 clear hA0 hval0 hsz0
 refine ((CtD.lawXS x0 b0 x1 b1) W #[v0,.slice a1 len1 cap1] fun s => .two (hr0 s) (hr1 s)).mono fun e W' ⟨he,bel⟩=>?_
 subst he
 exact ⟨_,rfl,_,_,_,[],_,[],hW',trodAll_mk1 (shut_bool Try.underlying4 _),(trodAll_cons_mk (Below.trod laidOut (by kernel_rfl) (of_decide_eq_true (by kernel_rfl)) k0 bel lt0) (trodAll_cons_mk (Below.trod laidOut (by kernel_rfl) (of_decide_eq_true (by kernel_rfl)) k1 bel lt1) trodAll_mk0)),rfl,bel.frame _,fun h=>by cases h⟩
theorem hfn:Try.pinned.checked.prog.funcNamed Rows.fnExactSliceProgramRow.func=some 3:=by kernel_rfl
theorem and2 {a b:Bool} (h:a=true) (h':b=true):(a && b)=true:=by rw [h,h'];rfl
theorem hcl:joinedFacts Try.pinned.checked.prog 3 Try.f3 Rows.fnExactSliceProgramSpec Rows.fnExactSliceProgramRow=true:=by
 unfold joinedFacts
 repeat' with_reducible apply and2
 all_goals (as_aux_lemma=>kernel_rfl)
theorem hin:Try.f3.isInstance Try.pinned.checked.prog Rows.fnExactSliceProgramRow.origin Rows.fnExactSliceProgramRow.targs:=of_decide_eq_true (by kernel_rfl)
theorem hwr:Try.f3.isWrapper Try.pinned.checked.prog Rows.fnExactSliceProgramRow.wrapper Rows.fnExactSliceProgramRow.mainSum:=by unfold Func.isWrapper;first | (rw [if_pos (by decide +kernel)];kernel_rfl) | (rw [if_neg (by decide +kernel)];exact ⟨rfl,rfl⟩)
theorem over:Rows.fnExactSliceProgramRow.holds Try.pinned (OpenSpec.ofChange Rows.fnExactSliceProgramSpec) :=
 OpenClaim.holds_of_wide 3 Try.f3 rfl rfl rfl rfl rfl rfl rfl ⟨rfl, rfl, rfl, rfl, rfl⟩ rfl rfl rfl rfl rfl hfn Try.func3 hcl hin hwr
  (fun os started H enc _=>lifted os started H enc)
theorem proved:Rows.FnExactSliceProgramSaid:=over
#print axioms proved
end Go.Proofs.Ytlapccpnilomfaa.fnExactSliceProgram
