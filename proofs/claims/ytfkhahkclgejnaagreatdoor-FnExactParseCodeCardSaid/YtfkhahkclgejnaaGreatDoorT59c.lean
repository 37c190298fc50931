/- For every list of bytes, the Go function FnExactParseCode returns true, and its arguments read afterwards as before: the statement FnExactParseCodeSaid. -/
import Derived.Test.YtfkhahkclgejnaaGreatDoorRows
import Derived.WalkKit
import Derived.ProofKit
import Derived.OpenShut
import Derived.ShutString
import Derived.ChangeOld
import Derived.Below
import Derived.SizedLaws
import Derived.Handed
import Derived.HandedShaped
import Derived.Lay
import Derived.LaidMore
import Derived.LaidHandle
import Derived.Stop.Joined
import Derived.Stop.LaidErr
import Derived.Lib.LaidU8
import Derived.SevenTiedAt
import Derived.Test.YtfkhahkclgejnaaGreatDoorShelf
import Derived.Test.YtfkhahkclgejnaaGreatDoorTie
import Derived.Test.YtfkhahkclgejnaaGreatDoorCards
import Derived.Test.YtfkhahkclgejnaaGreatDoorHAq
set_option linter.unusedVariables false
set_option linter.unusedSimpArgs false
set_option linter.unusedSectionVars false
set_option maxHeartbeats 16000000
set_option maxRecDepth 100000
namespace Go.Proofs.YtfkhahkclgejnaaGreatDoor.fnExactParseCode
open Go.ChangeShapes Go.WideShapes Go.ChangeAt Go.RowKit
open Go.ChangeMaps (open_string shut_string)
theorem own:ownKnob Tryz.prog.godebug=none:=by kernel_rfl
theorem laidOut:laidOutB Tryz.prog=true:=by kernel_rfl
theorem bytes5:Tryz.prog.bytesOf 5=1:=by kernel_rfl
theorem of_laid {W:World} (h:laidMetH Tryz.prog Rows.fnExactParseCodeRow.laid W):CtD.TabW W:=by
 rw [MakeChecks.laidMetH_plain _ _ _ (by kernel_rfl)] at h
 obtain ⟨g, t, cs, fuel, p, hg, ht, hv, hd⟩ := Lib.laidMet.reads h (n := "internal/strconv.uint64pow10") (d := Lib.tabData .u64 Lib.pow10Tab) (List.mem_cons_of_mem _ (List.mem_cons_of_mem _ (List.mem_cons.2 (.inl (by kernel_rfl)))))
 obtain rfl := Option.some.inj ((show Tryz.prog.globalNamed "internal/strconv.uint64pow10" = some 5 by kernel_rfl).symm.trans hg)
 obtain rfl:=Option.some.inj ((show (Tryz.prog.globals[5]?).map (·.type)=some 165 by kernel_rfl).symm.trans ht)
 show W.var? _ _=_
 rw [hv,← Lib.cells_of_tab (t:=165) (e:=125) (n:=20) (by kernel_rfl) (by kernel_rfl) (by kernel_rfl) (by kernel_rfl) hd]
theorem rowErr (u : TypeId) (h : Tryz.prog.typeName? 3 u = some "*errors.errorString") : u = 141 :=
 typeName_ptr_named (nm := "errors.errorString") (by rw [show "*" ++ "errors.errorString" = "*errors.errorString" by decide]; kernel_rfl) (by kernel_rfl) (by decide) u (by rw [show "*" ++ "errors.errorString" = "*errors.errorString" by decide]; exact h)
theorem err_laid {W : World} (h : laidMetH Tryz.prog Rows.fnExactParseCodeRow.laid W) : (∃ tp p, W.var? Tryz.prog "strconv.ErrSyntax" = some #[.iface tp p]) ∧ ∃ tp p, W.var? Tryz.prog "strconv.ErrRange" = some #[.iface tp p] := by
 rw [MakeChecks.laidMetH_plain _ _ _ (by kernel_rfl)] at h
 have h4:=h.tail.tail.tail.tail
 obtain ⟨a1, _, h1, _⟩ := laid_sentinel h4 (show Tryz.prog.globalNamed "strconv.ErrRange" = some 2 by kernel_rfl) (show (Tryz.prog.globals[2]?).map (·.type) = some 53 by kernel_rfl) Tryz.underlying53 rowErr Tryz.underlying141 Tryz.underlying143 rfl rfl Tryz.underlying9 (by kernel_rfl) (by kernel_rfl)
 obtain ⟨a2, _, h2, _⟩ := laid_sentinel h4.tail (show Tryz.prog.globalNamed "strconv.ErrSyntax" = some 1 by kernel_rfl) (show (Tryz.prog.globals[1]?).map (·.type) = some 53 by kernel_rfl) Tryz.underlying53 rowErr Tryz.underlying141 Tryz.underlying143 rfl rfl Tryz.underlying9 (by kernel_rfl) (by kernel_rfl)
 exact ⟨⟨_,_,h2⟩,_,_,h1⟩
theorem var_at {W:World} {s:String} {cs:Array Value} (h:W.var? Tryz.prog s=some cs) (w':World) (hw:∀ b,b<W.heap.size→w'.heap[b]? = W.heap[b]?):w'.var? Tryz.prog s=some cs:=by
 letI:Go.CT.Yn:=⟨0,fun _=>none⟩
 obtain ⟨g,T,fr,h1,h2⟩:=CtD.var_lt h
 have h3:=hw g (Go.CT.lt_of_heap h2)
 simp only [World.var?,h1,Option.bind_some,h3,h2]
theorem errY_at {W : World} (h : (∃ tp p, W.var? Tryz.prog "strconv.ErrSyntax" = some #[.iface tp p]) ∧ ∃ tp p, W.var? Tryz.prog "strconv.ErrRange" = some #[.iface tp p]) : CtD.ErrY (Go.CT.ynAt W) := fun w' hw => by
 obtain ⟨⟨t1,p1,h1⟩,t2,p2,h2⟩:=h
 exact ⟨⟨t1,p1,var_at h1 w' hw⟩,t2,p2,var_at h2 w' hw⟩
theorem maxY_at {W:World} (h:∃ m,W.cell? ⟨0,0,none⟩=some (.int .i64 m)):CtD.MaxY (Go.CT.ynAt W):=fun w' hw=>by
 obtain ⟨m,h⟩:=h
 have hlt:0<W.heap.size:=by
  rcases Nat.eq_zero_or_pos W.heap.size with q | q
  ·rw [World.cell?,Array.getElem?_eq_none (by omega)] at h
   cases h
  ·exact q
 letI:Go.CT.Yn:=⟨0,fun _=>none⟩
 exact ⟨m,(Go.CT.cell_of_heap (hw 0 hlt)).trans h⟩
theorem lifted (os : Os) (started : os.Started) (H : Type) (enc : TypeId × Value → H) :
 ReturnsInHanded {} Tryz.checked os 3 .any (fun w args => (Rows.fnExactParseCodeSpec.pre enc Tryz.prog Tryz.f3 [] false w args ∧ laidMetH Tryz.prog Rows.fnExactParseCodeRow.laid w) ∧ sizedMet enc Tryz.prog Tryz.f3 (OpenSpec.ofChange Rows.fnExactParseCodeSpec) false w args)
  (Rows.fnExactParseCodeSpec.post enc Tryz.prog Tryz.f3 false true false false):=by
 refine returnsInHanded_of_calls own started (by kernel_rfl)
  (ChangeSpec.witness_shaped (enc:=enc) (C:=Tryz.checked) (os:=os) (X:=fun w _=>laidMetH Tryz.prog Rows.fnExactParseCodeRow.laid w) false (World.laidAll Tryz.prog os Rows.fnExactParseCodeRow.laid) #[.string ByteArray.empty] 8 (World.laidAll_os _ _ _) (World.shaped_of_ZipB (by kernel_rfl) (by kernel_rfl)) (by kernel_rfl) (by kernel_rfl) (by kernel_rfl) (by rw [MakeChecks.laidMetH_plain _ _ _ (by kernel_rfl)];exact laidMet_laidAll _ (by kernel_rfl) (by kernel_rfl))) ?_
 intro w0 tape i _ hsh _ hok hpre _
 obtain ⟨_,_,_,fn',hfn',_,_,_,_,hvalq⟩:=hok
 obtain rfl:fn'=Tryz.f3:=Option.some.inj (hfn'.symm.trans Tryz.func3)
 obtain ⟨⟨⟨ds,gs,before,hw1,hcnd⟩,hL1⟩,hz1⟩:=hpre
 have hLq:laidMetH Tryz.prog Rows.fnExactParseCodeRow.laid (w0.forCall tape i):=hL1.of_heap (w':=w0.forCall tape i) (by rfl)
 have hWq:=DataW.Whole.of_heap (w':=w0.forCall tape i) (by rfl) hw1
 have hszq:=hz1.weights hw1
 suffices hgo:∀ (W:World) (base:Nat) (args:Array Value),(∀ (j:Nat) t v,Tryz.f3.params[j]? = some t→args[j]? = some v→Value.okWide Tryz.prog W .any base t v)→DataW.Whole enc Tryz.prog Tryz.f3.params.toList Rows.fnExactParseCodeSpec.vars false W args.toList ds gs before →
  (DataW.weightsEach Tryz.prog (Tryz.f3.params.toList++Rows.fnExactParseCodeSpec.plain.varTypes Tryz.prog) (ds++gs)).all (·≤reachBytes)=true→laidMetH Tryz.prog Rows.fnExactParseCodeRow.laid W→W.ShapedOpen Tryz.prog →
  Calls Tryz.prog 3 args W fun e W'=>∃ v,e = .returned v∧Rows.fnExactParseCodeSpec.post enc Tryz.prog Tryz.f3 false true false false W args v W' by
  refine (hgo (w0.forCall tape i) w0.heap.size i.args hvalq hWq hszq hLq hsh).mono fun e W' ⟨v,he,hp⟩=>?_
  subst he
  exact ChangeSpec.post_blind hp
 clear hLq hWq hszq hvalq hw1 hL1 hz1 hsh hcnd
 intro W base args hval0 hW hsz0 hL hSh
 letI:Go.CT.Yn:=⟨W.heap.size,fun b=>W.heap[b]?⟩
 letI:Go.CT.Yn:=⟨W.heap.size,fun b=>W.heap[b]?⟩
 have hval:∀ (j:Nat) t v,Tryz.f3.params[j]? = some t→args[j]? = some v→Value.okWide Tryz.prog W .any base t v:=hval0
 have hsz:(DataW.weightsEach Tryz.prog (Tryz.f3.params.toList++Rows.fnExactParseCodeSpec.plain.varTypes Tryz.prog) (ds++gs)).all (·≤reachBytes)=true:=hsz0
 have hW':=hW
 obtain ⟨p,q,hA0,hV,rfl,hfz,hnd⟩:=hW
 have hA:DataW.TrodAll enc Tryz.prog W 0 (fun _=>true) true Tryz.f3.params.toList args.toList ds p:=hA0
 rw [Tryz.params3] at hA hval hsz
 obtain ⟨v0,vs0,d0,ds0,p0,q0,hargs,rfl,rfl,h0,r0⟩:=trodAll_cons hA
 obtain ⟨rfl,rfl,rfl⟩:=trodAll_nil r0
 obtain rfl:args=#[v0]:=by cases args;simp_all
 obtain ⟨rfl,rfl⟩:=trodVars_none hV
 obtain ⟨s0,rfl,rfl,rfl,m0⟩:=open_string Tryz.underlying9 (hval 0 9 v0 rfl rfl) h0
 clear hA0 hval0 hsz0
 have hs0:CtD.bstr s0.data.toList=s0:=CtD.bstr_data s0
 refine (Go.CT.DC.below (CtD.lawXParse (CtD.tabY_at (of_laid hL)) (maxY_at (Tryz.laysM146.s1_3 W hSh)) (errY_at (err_laid hL)) s0.data.toList) fun s=>by rw [hs0];exact .one (Go.CT.rd_str s0)).mono fun e W' ⟨he,bel⟩=>?_
 subst he
 exact ⟨_,rfl,_,_,_,[],_,[],hW',trodAll_mk1 (shut_bool Tryz.underlying4 _),(trodAll_cons_mk (shut_string Tryz.underlying9 m0) trodAll_mk0),rfl,bel.frame _,fun h=>by cases h⟩
theorem hfn:Tryz.pinned.checked.prog.funcNamed Rows.fnExactParseCodeRow.func=some 3:=by kernel_rfl
theorem and2 {a b:Bool} (h:a=true) (h':b=true):(a && b)=true:=by rw [h,h'];rfl
theorem hcl:joinedFacts Tryz.pinned.checked.prog 3 Tryz.f3 Rows.fnExactParseCodeSpec Rows.fnExactParseCodeRow=true:=by
 unfold joinedFacts
 repeat' with_reducible apply and2
 all_goals (as_aux_lemma=>kernel_rfl)
theorem hin:Tryz.f3.isInstance Tryz.pinned.checked.prog Rows.fnExactParseCodeRow.origin Rows.fnExactParseCodeRow.targs:=of_decide_eq_true (by kernel_rfl)
theorem hwr:Tryz.f3.isWrapper Tryz.pinned.checked.prog Rows.fnExactParseCodeRow.wrapper Rows.fnExactParseCodeRow.mainSum:=by unfold Func.isWrapper;first | (rw [if_pos (by decide +kernel)];kernel_rfl) | (rw [if_neg (by decide +kernel)];exact ⟨rfl,rfl⟩)
theorem over:Rows.fnExactParseCodeRow.holds Tryz.pinned (OpenSpec.ofChange Rows.fnExactParseCodeSpec) :=
 OpenClaim.holds_of_wide 3 Tryz.f3 rfl rfl rfl rfl rfl rfl rfl ⟨rfl, rfl, rfl, rfl, rfl⟩ rfl rfl rfl rfl rfl hfn Tryz.func3 hcl hin hwr
  (fun os started H enc _=>lifted os started H enc)
theorem proved:Claim7.holds Tryz.pinned (.plain (OpenSpec.ofChange Rows.fnExactParseCodeSpec)) Rows.fnExactParseCodeCard :=
 Claim7.holds_tied_plain_at .later [] [.data, .data, .data, .data, .sentinel, .sentinel, .pinned] true Rows.fnExactParseCodeCard.stood.harness true
  over (fun _ h=>by cases h) (by kernel_rfl) (fun _ h=>by cases h) fnExactParseCode_row_tie rfl ⟨rfl,rfl⟩ (by kernel_rfl) (by kernel_rfl)
  (fun f fn hf hfn=>by
   obtain rfl:f=3:=Option.some.inj ((show Tryz.prog.funcNamed Rows.fnExactParseCodeRow.func=some 3 by kernel_rfl).symm.trans hf) |>.symm
   obtain rfl:fn=Tryz.f3:=(Option.some.inj (Tryz.func3.symm.trans hfn)).symm
   exact ⟨by kernel_rfl,fun j t ht=>by
    rw [Tryz.params3] at ht
    have hm:t ∈ [9]:=by simpa using Array.mem_of_getElem? ht
    have hall:([9].all fun u => !Tryz.prog.wantsStandIn u)=true:=by kernel_rfl
    exact (show Tryz.prog.wantsStandIn t=false by simpa using List.all_eq_true.1 hall t hm)⟩)
  (by kernel_rfl)
#print axioms proved
end Go.Proofs.YtfkhahkclgejnaaGreatDoor.fnExactParseCode
