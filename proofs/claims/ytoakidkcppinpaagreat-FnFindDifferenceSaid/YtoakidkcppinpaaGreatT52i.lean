/- For every list of bytes, the Go function FnFindDifference returns true, and its arguments read afterwards as before: the statement FnFindDifferenceSaid. -/
import Derived.Test.YtoakidkcppinpaaGreatRows
import Derived.WalkKit
import Derived.ProofKit
import Derived.OpenShut
import Derived.ShutString
import Derived.ChangeOld
import Derived.Below
import Derived.SizedLaws
import Derived.Test.YtoakidkcppinpaaGreatDBi
set_option linter.unusedVariables false
set_option linter.unusedSimpArgs false
set_option linter.unusedSectionVars false
set_option maxHeartbeats 16000000
set_option maxRecDepth 100000
namespace Go.Proofs.YtoakidkcppinpaaGreat.fnFindDifference
open Go.ChangeShapes Go.WideShapes Go.ChangeAt Go.RowKit
open Go.ChangeMaps (open_string shut_string)
theorem own:ownKnob Tryz.prog.godebug=none:=by kernel_rfl
theorem laidOut:laidOutB Tryz.prog=true:=by kernel_rfl
theorem bytes5:Tryz.prog.bytesOf 5=1:=by kernel_rfl
theorem lifted (os : Os) (started : os.Started) (H : Type) (enc : TypeId × Value → H) :
 ReturnsInHanded {} Tryz.checked os 3 .any (Rows.fnFindDifferenceSpec.pre6 enc Tryz.prog Tryz.f3 Rows.fnFindDifferenceRow.domain false) (Rows.fnFindDifferenceSpec.post enc Tryz.prog Tryz.f3 false true false false):=by
 refine returnsInHanded_of_change_sized (C := Tryz.checked) own started (by kernel_rfl) Tryz.func3
  (ChangeSpec.witness6 (enc:=enc) (C:=Tryz.checked) false ⟨#[],#[.slice none 0 0],[]⟩ 8 (by kernel_rfl) (by kernel_rfl) (by kernel_rfl) (by kernel_rfl)) ?_
 intro W base args ds gs before hval0 hW hcnd hsz0 _
 letI:Go.CT.Yn:=⟨W.heap.size⟩
 have hval:∀ (j:Nat) t v,Tryz.f3.params[j]? = some t→args[j]? = some v→Value.okWide Tryz.prog W .any base t v:=hval0
 have hsz:(DataW.weightsEach Tryz.prog (Tryz.f3.params.toList++Rows.fnFindDifferenceSpec.plain.varTypes Tryz.prog) (ds++gs)).all (·≤reachBytes)=true:=hsz0
 have hW':=hW
 obtain ⟨p,q,hA0,hV,rfl,hfz,hnd⟩:=hW
 have hA:DataW.TrodAll enc Tryz.prog W 0 (fun _=>true) true Tryz.f3.params.toList args.toList ds p:=hA0
 rw [Tryz.params3] at hA hval hsz
 obtain ⟨v0,vs0,d0,ds0,p0,q0,hargs,rfl,rfl,h0,r0⟩:=trodAll_cons hA
 obtain ⟨rfl,rfl,rfl⟩:=trodAll_nil r0
 obtain rfl:args=#[v0]:=by cases args;simp_all
 obtain ⟨rfl,rfl⟩:=trodVars_none hV
 obtain ⟨a0,len0,cap0,rfl⟩:=okWide_slice Tryz.underlying22 (hval 0 22 v0 rfl rfl)
 have k0:=h0
 have lt0:∀ x ∈ p0,x.block<W.heap.size:=by obtain ⟨m,hm⟩:=k0;exact DataW.trod_lt m _ _ _ hm
 obtain ⟨z0,w0,m0⟩:∃ zs,Go.CT.IsRow .u8 W a0 len0 cap0 zs∧len0≤Go.CT.mx:=by
  obtain ⟨fuel,hf⟩:=h0
  rcases open_ints Tryz.underlying22 Tryz.underlying5 (by kernel_rfl) hf with ⟨hcs,_⟩ | ⟨x,l,c,zs,hcs,_,hl,hm,hz,hx,hcell,hwz⟩
  ·simp [Value.cells] at hcs
   obtain ⟨rfl,rfl,rfl⟩:=hcs
   exact ⟨[],.inl ⟨rfl,rfl,rfl,rfl⟩,Nat.zero_le _⟩
  ·simp [Value.cells] at hcs
   obtain ⟨rfl,rfl,rfl⟩:=hcs
   simp only [Prod.mk.injEq] at hx
   obtain ⟨rfl,rfl⟩:=hx
   have hz':zs.length=cap0:=by simpa using hz
   have:=sized_slice hsz (j:=0) (t:=22) (e:=5) rfl rfl Tryz.underlying22
   rw [bytes5] at this
   simp only [lits,List.length_map,List.length_take,List.length_drop,reachBytes] at this
   have hmx:=Go.CT.mx_eq
   exact ⟨zs,.inr ⟨_,rfl,hl,hz',hcell,hwz⟩,by omega⟩
 clear hA0 hval0 hsz0
 have hr0:=fun s=>w0.rd (s:=s) m0
 refine (Go.CT.DC.below (CtD.lawFind (z0.take len0) (hr0 fun _=>none).2.1 (by rw [(hr0 fun _=>none).2.2];exact m0)) fun s => .one (hr0 s).1).mono fun e W' ⟨he,bel⟩=>?_
 subst he
 exact ⟨_,rfl,_,_,_,[],_,[],hW',trodAll_mk1 (shut_bool Tryz.underlying4 _),(trodAll_cons_mk (Below.trod laidOut (by kernel_rfl) (of_decide_eq_true (by kernel_rfl)) k0 bel lt0) trodAll_mk0),rfl,bel.frame _,fun h=>by cases h⟩
theorem hfn:Tryz.pinned.checked.prog.funcNamed Rows.fnFindDifferenceRow.func=some 3:=by kernel_rfl
theorem and2 {a b:Bool} (h:a=true) (h':b=true):(a && b)=true:=by rw [h,h'];rfl
theorem hcl:joinedFacts Tryz.pinned.checked.prog 3 Tryz.f3 Rows.fnFindDifferenceSpec Rows.fnFindDifferenceRow=true:=by
 unfold joinedFacts
 repeat' with_reducible apply and2
 all_goals (as_aux_lemma=>kernel_rfl)
theorem hin:Tryz.f3.isInstance Tryz.pinned.checked.prog Rows.fnFindDifferenceRow.origin Rows.fnFindDifferenceRow.targs:=of_decide_eq_true (by kernel_rfl)
theorem hwr:Tryz.f3.isWrapper Tryz.pinned.checked.prog Rows.fnFindDifferenceRow.wrapper Rows.fnFindDifferenceRow.mainSum:=by unfold Func.isWrapper;first | (rw [if_pos (by decide +kernel)];kernel_rfl) | (rw [if_neg (by decide +kernel)];exact ⟨rfl,rfl⟩)
theorem over:Rows.fnFindDifferenceRow.holds Tryz.pinned (OpenSpec.ofChange Rows.fnFindDifferenceSpec) :=
 OpenClaim.holds_of_wide 3 Tryz.f3 rfl rfl rfl rfl rfl rfl rfl ⟨rfl, rfl, rfl, rfl, rfl⟩ rfl rfl rfl rfl rfl hfn Tryz.func3 hcl hin hwr
  (fun os started H enc _=>lifted os started H enc)
theorem proved:Rows.FnFindDifferenceSaid:=over
#print axioms proved
end Go.Proofs.YtoakidkcppinpaaGreat.fnFindDifference
