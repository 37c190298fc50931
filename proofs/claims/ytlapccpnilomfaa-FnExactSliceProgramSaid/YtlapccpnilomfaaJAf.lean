/- An operation of a region, whatever it is: what it may be taken for ('Stp'), and that it is that. -/
import Derived.Test.YtlapccpnilomfaaJAe
set_option linter.unusedVariables false
set_option linter.unusedSimpArgs false
set_option linter.unusedSectionVars false
set_option maxHeartbeats 16000000
set_option maxRecDepth 100000
namespace Go.CT
variable [Yn]
def argsOf (tm : Nat → Option D) : List Operand → Option (List D)
  | []=>some []
  | x :: r=>(match evP tm x,argsOf tm r with | some d,some ds=>some (d :: ds) | _,_=>none)
def calleeOf (tm:Nat→Option D) (c:Call):Option (FuncId × List D) :=
  match c.callee with
  | .value f=>(match evP tm f,argsOf tm c.args.toList with | some (.c (.clo F caps)),some ds=>some (F,ds++caps.map D.c) | some (.c (.met F cs)),some ds=>some (F,.agg cs :: ds) | _,_=>none)
  | _=>none
def fnOK (P:Program) (F:FuncId):Bool :=
  match P.funcs[F]? with
  | some fn => !(fn.name == "runtime.NumGoroutine") && fn.body.isSome
  | none=>false
def guardB (all:Array Oper) (tm:Nat→Option D) (g:Nat) (b:Bool):Option Bool :=
  match (all[g]?).bind (·.dst) with
  | some t=>(match tm t with
    | some d=>(match peelD d with
      | .c (.v (.bool y))=>some (peelB d && (y == b))
      | _=>none)
    | none=>none)
  | none=>none
abbrev wkey (nx i:Nat):Nat:=nx+64 * i
def mayUp : Op → Bool
  | .alloc _ | .box _ _ | .buildSlice _ _ _ | .store _ _ _ | .makeSlice _ _ _=>true
  | .call c=>(match c.callee with | .builtin .append=>true | .builtin .clear=>true | _=>false)
  | _=>false
theorem mayUp_up {P:Program} {m key:Nat} {tm:Nat→Option D} {hp:Hp} {op:Op} {out:Out} (hm:mayUp op=true) (h:stp P m key tm hp op=some out):out.up ≠ []:=by
  unfold stp at h
  split at h
  all_goals first
    | (exfalso;revert hm;simp [mayUp];done)
    | (repeat' split at h)<;>first | (cases h;done) | (simp only [Option.some.injEq] at h;subst h;simp;done) | (simp only [Option.some.injEq] at h;subst h;simp [spendUp];done) | (exfalso;revert hm;simp_all [mayUp];done)
theorem renC_plain (r : Nat → Nat) : ∀ {c : C}, kf c = true → renC r c = c
  | .v _,_ | .isl _ _,_ | .csl _ _ _,_ | .num _,_ | .z,_ | .unk,_ | .eptr _,_ | .met _ _,_=>rfl
  | .msl _ _ _ _,h | .ptr _ _,h | .clo _ _,h=>by simp [kf] at h
theorem renCs_plain (r : Nat → Nat) : ∀ {cs : List C}, kfs cs = true → renCs r cs = cs
  | [],_=>rfl
  | c :: cs,h=>by simp only [kfs,Bool.and_eq_true] at h;simp only [renCs,renC_plain r h.1,renCs_plain r h.2]
theorem appUp_same {r : Nat → Nat} : ∀ (l : List (Option (List C))) (j : Nat) (hp : Hp), (∀ i' x, l[i']? = some x → hp (r (j + i')) = some (x.map (renCs r))) → appUp hp (upsFrom r j l) = hp
  | [],_,_,_=>rfl
  | x :: l,j,hp,h=>by
    have h0:=h 0 x rfl
    have e:upd hp (r j) (some (x.map (renCs r)))=hp:=by
      funext k
      by_cases hk:k=r j
      · subst hk;rw [upd_same];simpa using h0.symm
      · rw [upd_ne _ _ hk]
    simp only [upsFrom,appUp,e]
    exact appUp_same l (j+1) hp fun i' y hy=>by rw [show j+1+i'=j+(i' + 1) from by omega];exact h (i' + 1) y (by simpa using hy)
theorem same_ups {hp : Hp} {ks : List Nat} {h : List (Option (List C))} {b : Nat} (hks : ks.length = h.length) (hhp : ∀ i' x, h[i']? = some x → hp (ks.getD i' 0) = some (x.map (renCs (rk0 ks b))))
    (hkf:∀ cs,some cs ∈ h→kfs cs=true):appUp hp (upsFrom (rkey ks b) 0 h)=hp :=
  appUp_same h 0 hp fun i' x hx=>by
    have hlt:i' < ks.length:=by rw [hks];exact (List.getElem?_eq_some_iff.1 hx).1
    have e:rkey ks b (0+i')=ks.getD i' 0:=by simp only [rkey,Nat.zero_add];rw [if_pos hlt]
    rw [e,hhp i' x hx]
    cases x with
    | none=>rfl
    | some cs =>
      have:=hkf cs (List.mem_of_getElem? hx)
      simp only [Option.map_some,renCs_plain _ this]
def gkey (tm : Nat → Option D) : Op → Option Nat
  | .load _ x=>(match evP tm x with | some (.c (.ptr k _))=>some k | _=>none)
  | _=>none
theorem gkey_mayUp {tm:Nat→Option D} {op:Op} (h:mayUp op=true):gkey tm op=none:=by
  cases op<;>first | rfl | (simp [mayUp] at h)
def GN (P:Program) (m key:Nat) (tm:Nat→Option D) (hp:Hp) (op:Op) (rd:List Nat):Prop :=
  match gkey tm op with
  | none=>rd=[]∧∀ hp',stp P m key tm hp' op=none
  | some k=>rd=[k]∧stp P m key tm hp op=none
theorem GN.non {P:Program} {m key:Nat} {tm:Nat→Option D} {hp:Hp} {op:Op} {rd:List Nat} (h:GN P m key tm hp op rd):stp P m key tm hp op=none:=by
  unfold GN at h
  split at h
  · exact h.2 hp
  · exact h.2
theorem GN.rds {P:Program} {m key:Nat} {tm:Nat→Option D} {hp:Hp} {op:Op} {rd rd':List Nat} (h:GN P m key tm hp op rd) (h':GN P m key tm hp op rd'):rd=rd':=by
  unfold GN at h h'
  split at h
  · rename_i e
    rw [e] at h'
    exact h.1.trans h'.1.symm
  · rename_i k e
    rw [e] at h'
    exact h.1.trans h'.1.symm
theorem GN.up {P:Program} {m key:Nat} {tm:Nat→Option D} {hp:Hp} {op:Op} {rd:List Nat} (h:GN P m key tm hp op rd) (hm:mayUp op=true):rd=[]:=by
  unfold GN at h
  rw [gkey_mayUp hm] at h
  exact h.1
theorem gkey_agree {P:Program} {m key:Nat} {tm:Nat→Option D} {hp hp':Hp} {op:Op} {k:Nat} (hk:gkey tm op=some k) (e:hp k=hp' k):stp P m key tm hp op=stp P m key tm hp' op:=by
  unfold gkey at hk
  split at hk
  · rename_i t x
    split at hk
    · rename_i k' off hx
      simp only [Option.some.injEq] at hk
      subst hk
      simp only [stp,pop,hx]
      cases tagg P t<;>cases tsz P t<;>simp only [e]
    · cases hk
  · cases hk
inductive Stp (P : Program) (m nx : Nat) (all : Array Oper) (i : Nat) (o : Oper) (tm : Nat → Option D) (hp : Hp) : List Nat → List Nat → (Option D → List (Nat × Option (List C)) → Prop) → Prop
  | plain (out:Out) (hg:o.guard=none) (h:stp P m (wkey nx i) tm hp o.op=some out) (hvc:out.vc):Stp P m nx all i o tm hp out.rd (out.up.map (·.1)) (fun d up=>d=out.d∧up=out.up)
  | gplain (g : Nat) (b x : Bool) (out : Out) (hg : o.guard = some (g, b)) (hx : guardB all tm g b = some x) (h : stp P m (wkey nx i) tm hp o.op = some out) (hup : out.up = []) (hvc : x = true → out.vc) :
      Stp P m nx all i o tm hp out.rd [] (fun d up=>d=out.d.map (.when x)∧up=[])
  | gnone (g:Nat) (b:Bool) (rd:List Nat) (hg:o.guard=some (g,b)) (hx:guardB all tm g b=some false) (h:GN P m (wkey nx i) tm hp o.op rd) (hnc:∀ c,o.op = .call c→∀ f,c.callee ≠ .value f):Stp P m nx all i o tm hp rd [] (fun d up=>d=some (.when false (DB false))∧up=[])
  | gon (g : Nat) (b : Bool) (out : Out) (hg : o.guard = some (g, b)) (hm : mayUp o.op = true) (hx : guardB all tm g b = some true) (h : stp P m (wkey nx i) tm hp o.op = some out) (hvc : out.vc) :
      Stp P m nx all i o tm hp out.rd (out.up.map (·.1)) (fun d up=>d=out.d∧up=out.up)
  | goff (g:Nat) (b:Bool) (hg:o.guard=some (g,b)) (hm:mayUp o.op=true) (hx:guardB all tm g b=some false):Stp P m nx all i o tm hp [] [] (fun d up=>d=some (.when false (DB false))∧up=[])
  | call (c : Call) (F : FuncId) (args : List D) (ks : List Nat) (h : List (Option (List C))) (R : D → List (Option (List C)) → Prop) (hg : o.guard = none ∨ ∃ g b, o.guard = some (g, b) ∧ guardB all tm g b = some true) (hop : o.op = .call c)
      (hc:calleeOf tm c=some (F,args.map (renD (rk0 ks (wkey nx i))))) (hok:okP tm c.operands.toList) (hfn:fnOK P F=true) (hD:DC P F args h R) (hks:ks.length=h.length) (hnd:ks.Nodup)
      (hhp:∀ i' x,h[i']? = some x→hp (ks.getD i' 0)=some (x.map (renCs (rk0 ks (wkey nx i))))) (hm:m≤wkey nx i) (hb:∀ j,j<64→hp (wkey nx i+j)=none) (hlen:∀ d h',R d h'→h'.length≤h.length+64) :
      Stp P m nx all i o tm hp ks ks (fun d up=>∃ d' h',R d' h'∧h.length≤h'.length∧d=some (renD (rkey ks (wkey nx i)) d')∧up=upsFrom (rkey ks (wkey nx i)) 0 h')
  | rcall (c : Call) (F : FuncId) (args : List D) (ks : List Nat) (h : List (Option (List C))) (R : D → List (Option (List C)) → Prop) (hg : o.guard = none ∨ ∃ g b, o.guard = some (g, b) ∧ guardB all tm g b = some true) (hop : o.op = .call c)
      (hc:calleeOf tm c=some (F,args.map (renD (rk0 ks (wkey nx i))))) (hok:okP tm c.operands.toList) (hfn:fnOK P F=true) (hD:DC P F args h R) (hks:ks.length=h.length) (hnd:ks.Nodup)
      (hhp:∀ i' x,h[i']? = some x→hp (ks.getD i' 0)=some (x.map (renCs (rk0 ks (wkey nx i))))) (hm:m≤wkey nx i) (hb:∀ j,j<64→hp (wkey nx i+j)=none) (hsame:∀ d h',R d h'→h'=h) (hkf:∀ cs,some cs ∈ h→kfs cs=true) :
      Stp P m nx all i o tm hp ks [] (fun d up=>∃ d',R d' h∧d=some (renD (rkey ks (wkey nx i)) d')∧up=[])
  | gcall (g : Nat) (b x : Bool) (c : Call) (d : D) (hg : o.guard = some (g, b)) (hx : guardB all tm g b = some x) (hop : o.op = .call c) (hcf : ∃ f, c.callee = .value f)
      (hc:x=true→∃ F args,calleeOf tm c=some (F,args.map (renD (rk0 [] (wkey nx i))))∧okP tm c.operands.toList∧fnOK P F=true∧DC P F args [] (fun r h'=>r=d∧h'=[])∧renD (rkey [] (wkey nx i)) d=d)
      (hm:m≤wkey nx i) (hb:∀ j,j<64→hp (wkey nx i+j)=none) :
      Stp P m nx all i o tm hp [] [] (fun d' up=>d'=some (.when x d)∧up=[])
section
variable {P:Program}
theorem peel_false {I:Nat→Prop} {w:World} {s:Sg} {x:Value} {d:D} (h:RD I w s x d) (hb:peelB d=false):x=undef:=by
  cases h with
  | when _ b d h h0=>exact h0 hb
  | _=>simp [peelB] at hb
theorem guardB_sound {I : Nat → Prop} {w : World} {s : Sg} {a : Act} {tm : Nat → Option D} (hA : ∀ n d, tm n = some d → RD I w s (a.tmps.getD n undef) d) {all : Array Oper} {o : Oper} {g : Nat} {b x : Bool}
    (hg:o.guard=some (g,b)) (hx:guardB all tm g b=some x):Region.wanted o (yielded all a.tmps)=x:=by
  unfold guardB at hx
  split at hx
  · rename_i t ht
    split at hx
    · rename_i d hd
      split at hx
      · rename_i y hy
        simp only [Option.some.injEq] at hx
        have hr:=hA t d hd
        have hv:yielded all a.tmps g=if peelB d=true then some y else none:=by
          unfold yielded
          rw [ht]
          simp only [Option.bind_some]
          by_cases hlt:t<a.tmps.size
          · have e:a.tmps[t]? = some a.tmps[t]:=by simp [hlt]
            have e2:a.tmps.getD t undef=a.tmps[t]:=by simp [hlt]
            rw [e2] at hr
            rw [e]
            by_cases hb:peelB d=true
            · have:=peel_sound hr hb
              rw [hy] at this
              rw [(rd_scalar this).1,if_pos hb]
            · rw [if_neg hb,peel_false hr (by simpa using hb)]
              rfl
          · have e:a.tmps[t]? = none:=Array.getElem?_eq_none (Nat.le_of_not_lt hlt)
            have e2:a.tmps.getD t undef=undef:=by simp [hlt]
            rw [e2] at hr
            rw [e]
            by_cases hb:peelB d=true
            · have:=peel_sound hr hb
              rw [hy] at this
              have:=(rd_scalar this).1
              simp [undef] at this
            · rw [if_neg hb]
        unfold Region.wanted
        rw [hg]
        simp only [hv,← hx]
        cases hpb:peelB d<;>simp
      · cases hx
    · cases hx
  · cases hx
theorem argsOf_sound {I : Nat → Prop} {w : World} {s : Sg} {a : Act} {tm : Nat → Option D} (hA : ∀ n d, tm n = some d → RD I w s (a.tmps.getD n undef) d) {l0 : List Operand} (hok : okP tm l0) :
    ∀ (l:List Operand) (ds:List D),(∀ x ∈ l,x ∈ l0)→argsOf tm l=some ds→RDs I w s (l.map a.eval).toArray ds
  | [],ds,_,h=>by
    simp only [argsOf,Option.some.injEq] at h
    subst h
    exact ⟨rfl,fun j h=>by simp at h⟩
  | x :: r,ds,hm,h=>by
    simp only [argsOf] at h
    split at h
    · rename_i d ds' hd hr
      simp only [Option.some.injEq] at h
      subst h
      have ih:=argsOf_sound hA hok r ds' (fun y hy=>hm y (by simp [hy])) hr
      have h0:=evP_sound hA hd hok (hm x (by simp))
      refine ⟨by have:=ih.1;simp at this ⊢;exact this,fun j h1 h2=>?_⟩
      cases j with
      | zero=>simpa using h0
      | succ j =>
        have h3:=ih.2 j (by simpa using h1) (by simpa using h2)
        rw [List.getElem_toArray] at h3
        rw [List.getElem_toArray]
        exact h3
    · cases h
theorem call_run {I : Nat → Prop} {w : World} {s : Sg} {a : Act} {tm : Nat → Option D} (hA : ∀ n d, tm n = some d → RD I w s (a.tmps.getD n undef) d) {o : Oper} {c : Call} {F : FuncId} {ds : List D} (hop : o.op = .call c)
    (hc:calleeOf tm c=some (F,ds)) (hok:okP tm c.operands.toList) (hfn:fnOK P F=true):∃ vs,(execOp a.eval o).run P w = .ok (.enter F vs) w∧RDs I w s vs ds:=by
  obtain ⟨callee,args,argTypes⟩:=c
  unfold calleeOf at hc
  split at hc
  · rename_i f hcal
    simp only at hcal
    subst hcal
    split at hc
    · rename_i F' caps ds' hf ha
      simp only [Option.some.injEq,Prod.mk.injEq] at hc
      obtain ⟨rfl,rfl⟩:=hc
      obtain ⟨vs,hv,hvr⟩:=rd_clo (evP_sound hA hf hok (by simp [Call.operands]))
      have har:=argsOf_sound hA hok args.toList ds' (fun x hx=>by simp only [Call.operands,Array.toList_append,List.mem_append];exact .inr hx) ha
      have e1:(args.toList.map a.eval).toArray=args.map a.eval:=by apply Array.ext';simp
      rw [e1] at har
      refine ⟨args.map a.eval++vs,?_,?_,fun j h1 h2=>?_⟩
      · unfold fnOK at hfn
        split at hfn
        · rename_i fn hfn'
          simp only [Bool.and_eq_true,Bool.not_eq_true'] at hfn
          simp only [execOp,hop,resolve,hv]
          rw [run_bind (x:=({ target := .fn (.func F') vs,args:=#[]++args.map a.eval }:Deferred)) (w':=w) _ _ _ (by rfl)]
          simp only [invoke,callFunc]
          rw [run_bind (x:=P) (w':=w) _ _ _ (by rfl)]
          simp only [hfn',hfn.1,Bool.false_eq_true,if_false]
          have hb:fn.body.isNone=false:=by
            have:=hfn.2
            cases hbb:fn.body<;>simp_all
          simp only [hb,Bool.false_eq_true,if_false,Array.empty_append]
          rfl
        · cases hfn
      · have h1:=har.1
        have h2:=hvr.1
        simp only [Array.size_append,List.length_append,List.length_map,h1,h2]
      · have hl1:(args.map a.eval).size=ds'.length:=har.1
        by_cases hj:j<(args.map a.eval).size
        · have:=har.2 j hj (by omega)
          simp only [Array.getElem_append,List.getElem_append,hj,show j<ds'.length from by omega,dite_true]
          exact this
        · have hj2:j - (args.map a.eval).size<vs.size:=by simp at h1;simp at hj ⊢;omega
          have:=hvr.2 (j - (args.map a.eval).size) hj2 (by rw [← hvr.1];exact hj2)
          simp only [Array.getElem_append,List.getElem_append,hj,show ¬ j<ds'.length from by omega,dite_false,List.getElem_map]
          refine .c _ _ ?_
          simp only [← hl1]
          exact this
    · rename_i F' cs ds' hf ha
      simp only [Option.some.injEq,Prod.mk.injEq] at hc
      obtain ⟨rfl,rfl⟩:=hc
      obtain ⟨vs,hv,hvr⟩:=rd_met (evP_sound hA hf hok (by simp [Call.operands]))
      have har:=argsOf_sound hA hok args.toList ds' (fun x hx=>by simp only [Call.operands,Array.toList_append,List.mem_append];exact .inr hx) ha
      have e1:(args.toList.map a.eval).toArray=args.map a.eval:=by apply Array.ext';simp
      rw [e1] at har
      refine ⟨#[.agg vs]++args.map a.eval,?_,?_,fun j h1 h2=>?_⟩
      · unfold fnOK at hfn
        split at hfn
        · rename_i fn hfn'
          simp only [Bool.and_eq_true,Bool.not_eq_true'] at hfn
          simp only [execOp,hop,resolve,hv]
          rw [run_bind (x:=({ target := .fn (.func F') #[],args:=#[.agg vs]++args.map a.eval }:Deferred)) (w':=w) _ _ _ (by rfl)]
          simp only [invoke,callFunc]
          rw [run_bind (x:=P) (w':=w) _ _ _ (by rfl)]
          simp only [hfn',hfn.1,Bool.false_eq_true,if_false]
          have hb:fn.body.isNone=false:=by
            have:=hfn.2
            cases hbb:fn.body<;>simp_all
          simp only [hb,Bool.false_eq_true,if_false,Array.append_empty]
          rfl
        · cases hfn
      · have h1:=har.1
        simp only [Array.size_append,List.length_cons,h1]
        simp only [List.size_toArray,List.length_cons,List.length_nil]
        omega
      · cases j with
        | zero =>
          have:RD I w s (Value.agg vs) (D.agg cs) := .agg _ _ hvr.1 fun i g1 g2=>(hvr.2 i g1 g2).any s
          simpa using this
        | succ j =>
          have h3:j<(args.map a.eval).size:=by simp at h1 ⊢;omega
          have:=har.2 j h3 (by simpa using h2)
          have e:(#[Value.agg vs]++args.map a.eval)[j+1]=(args.map a.eval)[j]:=by
            rw [Array.getElem_append_right (by simp)];simp
          rw [e]
          exact this
    · cases hc
  · cases hc
structure Rc (I : Nat → Prop) (w : World) (s : Sg) (a : Act) (tm : Nat → Option D) (hp : Hp) (nt : Nat) : Prop where
  H:SimH I w s hp
  tm:∀ n d,tm n=some d→RD I w s (a.tmps.getD n undef) d
  df:a.defers=[]
  sz:a.tmps.size=nt
theorem slots_put {I : Nat → Prop} {w : World} {s : Sg} {a : Act} {tm : Nat → Option D} {nt : Nat} (hA : ∀ n d, tm n = some d → RD I w s (a.tmps.getD n undef) d) (hsz : a.tmps.size = nt) {dst : Option Tmp} {v : Value} {d : Option D}
    (hd:∀ d',d=some d'→RD I w s v d') (hf:fitsT nt dst=true):∀ n d',setT tm dst d n=some d'→RD I w s ((a.put dst v).tmps.getD n undef) d':=by
  cases dst with
  | none=>exact hA
  | some t =>
    have ht:t<nt:=by simpa [fitsT] using hf
    intro n d' hn
    rw [getD_put]
    simp only [setT,upd] at hn
    by_cases h:n=t
    · rw [if_pos h] at hn
      rw [if_pos ⟨h,by rw [hsz];exact ht⟩]
      exact hd d' hn
    · rw [if_neg h] at hn
      rw [if_neg (fun e=>h e.1)]
      exact hA n d' hn
theorem Stp.run {m nx nt : Nat} {all : Array Oper} {i : Nat} {o : Oper} (ho : all[i]? = some o) {I : Nat → Prop} {w : World} {s : Sg} {a : Act} {tm : Nat → Option D} {hp : Hp} (hR : Rc I w s a tm hp nt)
    {rd wr:List Nat} {T:Option D→List (Nat × Option (List C))→Prop} (h:Stp P m nx all i o tm hp rd wr T) (hf:fitsT nt o.dst=true) {Q:Exit→Act→World→Prop} {K:Act→World→Prop}
    (hK:∀ a' w' I' s' d up,T d up→Rc I' w' s' a' (setT tm o.dst d) (appUp hp up) nt→Ext m I w s hp I' w' s' (appUp hp up)→K a' w'):wpOp P all Q i K a w:=by
  have hput:∀ (I':Nat→Prop) (w':World) (s':Sg) (v:Value) (d:Option D) (up:List (Nat × Option (List C))),s.le s'→SimH I' w' s' (appUp hp up)→Ext m I w s hp I' w' s' (appUp hp up)→(∀ d',d=some d'→RD I' w' s' v d') →
      Rc I' w' s' (a.put o.dst v) (setT tm o.dst d) (appUp hp up) nt:=fun I' w' s' v d up hle H' E' hd =>
    ⟨H',slots_put (fun n d' hn=>E'.rd hR.H hle (hR.tm n d' hn)) hR.sz hd hf,by cases h:o.dst<;>simp [Act.put,h,hR.df],by cases h:o.dst<;>simp [Act.put,h,hR.sz]⟩
  unfold wpOp
  simp only [ho]
  cases h with
  | plain out hg h hvc =>
    obtain ⟨v,w',s',hrun,hle,H',E',hd⟩:=stp_sound (P:=P) (m:=m) hR.H hR.tm h hvc
    have hw:Region.wanted o (yielded all a.tmps)=true:=by simp [Region.wanted,hg]
    rw [if_pos hw]
    refine .inl ?_
    unfold Oper.wp
    rcases hrun with hrun | ⟨hrun,rfl⟩
    · rw [hrun]
      exact hK _ _ I s' out.d out.up ⟨rfl,rfl⟩ (hput I w' s' v out.d out.up hle H' E' hd) E'
    · rw [hrun]
      exact hK _ _ I s' out.d out.up ⟨rfl,rfl⟩ (hput I w' s' undef out.d out.up hle H' E' hd) E'
  | gon g b out hg _ hx h hvc =>
    obtain ⟨v,w',s',hrun,hle,H',E',hd⟩:=stp_sound (P:=P) (m:=m) hR.H hR.tm h hvc
    rw [guardB_sound hR.tm hg hx]
    simp only [if_true]
    refine .inl ?_
    unfold Oper.wp
    rcases hrun with hrun | ⟨hrun,rfl⟩
    · rw [hrun]
      exact hK _ _ I s' out.d out.up ⟨rfl,rfl⟩ (hput I w' s' v out.d out.up hle H' E' hd) E'
    · rw [hrun]
      exact hK _ _ I s' out.d out.up ⟨rfl,rfl⟩ (hput I w' s' undef out.d out.up hle H' E' hd) E'
  | goff g b hg _ hx =>
    rw [guardB_sound hR.tm hg hx]
    simp only [Bool.false_eq_true,if_false]
    exact hK _ _ I s _ [] ⟨rfl,rfl⟩ (hput I w s undef _ [] (Sg.le_refl _) hR.H (Ext.refl _ _ _ _ _) (fun d' e=>by cases e;exact .when _ false _ (fun h=>by cases h) (fun _=>rfl))) (Ext.refl _ _ _ _ _)
  | gplain g b x out hg hx h hup hvc =>
    have hw:=guardB_sound hR.tm hg hx
    rw [hw]
    cases x with
    | true =>
      obtain ⟨v,w',s',hrun,hle,H',E',hd⟩:=stp_sound (P:=P) (m:=m) hR.H hR.tm h (hvc rfl)
      simp only [if_true]
      refine .inl ?_
      unfold Oper.wp
      rw [hup] at H' E'
      have hd':∀ d',out.d.map (D.when true)=some d'→RD I w' s' v d':=fun d' e=>by
        cases ho':out.d with
        | none=>rw [ho'] at e;cases e
        | some d0 =>
          rw [ho'] at e
          simp only [Option.map_some,Option.some.injEq] at e
          rw [← e]
          exact .when v true d0 (fun _=>hd d0 ho') (fun h=>by cases h)
      rcases hrun with hrun | ⟨hrun,rfl⟩
      · rw [hrun]
        exact hK _ _ I s' _ [] ⟨rfl,rfl⟩ (hput I w' s' v _ [] hle H' E' hd') E'
      · rw [hrun]
        exact hK _ _ I s' _ [] ⟨rfl,rfl⟩ (hput I w' s' undef _ [] hle H' E' hd') E'
    | false =>
      simp only [Bool.false_eq_true,if_false]
      refine hK _ _ I s _ [] ⟨rfl,rfl⟩ (hput I w s undef _ [] (Sg.le_refl _) hR.H (Ext.refl _ _ _ _ _) (fun d' e=>?_)) (Ext.refl _ _ _ _ _)
      cases ho':out.d with
      | none=>rw [ho'] at e;cases e
      | some d0 =>
        rw [ho'] at e
        simp only [Option.map_some,Option.some.injEq] at e
        rw [← e]
        exact .when _ false d0 (fun h=>by cases h) (fun _=>rfl)
  | gnone g b _ hg hx _ _ =>
    rw [guardB_sound hR.tm hg hx]
    simp only [Bool.false_eq_true,if_false]
    exact hK _ _ I s _ [] ⟨rfl,rfl⟩ (hput I w s undef _ [] (Sg.le_refl _) hR.H (Ext.refl _ _ _ _ _) (fun d' e=>by cases e;exact .when _ false _ (fun h=>by cases h) (fun _=>rfl))) (Ext.refl _ _ _ _ _)
  | call c F args _ h R hg hop hc hok hfn hD hks hnd hhp hm hb hlen =>
    have hw:Region.wanted o (yielded all a.tmps)=true:=by
      rcases hg with hg | ⟨g,b,hg,hx⟩
      · simp [Region.wanted,hg]
      · exact guardB_sound hR.tm hg hx
    rw [if_pos hw]
    refine .inl ?_
    unfold Oper.wp
    obtain ⟨vs,hrun,hvs⟩:=call_run (P:=P) hR.tm hop hc hok hfn
    rw [hrun]
    refine (call_sound (m:=m) hR.H hD rd (wkey nx i) hks hnd hhp hm hb hlen hvs).mono ?_
    rintro e w' ⟨v,I',s',d,h',rfl,hRd,hlh,hle,H',E',hrd⟩
    exact hK _ _ I' s' _ _ ⟨d,h',hRd,hlh,rfl,rfl⟩ (hput I' w' s' v _ _ hle H' E' (fun d0 e=>by cases e;exact hrd)) E'
  | rcall c F args _ h R hg hop hc hok hfn hD hks hnd hhp hm hb hsame hkf =>
    have hw:Region.wanted o (yielded all a.tmps)=true:=by
      rcases hg with hg | ⟨g,b,hg,hx⟩
      · simp [Region.wanted,hg]
      · exact guardB_sound hR.tm hg hx
    rw [if_pos hw]
    refine .inl ?_
    unfold Oper.wp
    obtain ⟨vs,hrun,hvs⟩:=call_run (P:=P) hR.tm hop hc hok hfn
    rw [hrun]
    have hlen:∀ d h',R d h'→h'.length≤h.length+64:=fun d h' e=>by rw [hsame d h' e];omega
    refine (call_sound (m:=m) hR.H hD rd (wkey nx i) hks hnd hhp hm hb hlen hvs).mono ?_
    rintro e w' ⟨v,I',s',d,h',rfl,hRd,hlh,hle,H',E',hrd⟩
    obtain rfl:=hsame d h' hRd
    rw [same_ups hks hhp hkf] at H' E'
    exact hK _ _ I' s' _ _ ⟨d,hRd,rfl,rfl⟩ (hput I' w' s' v _ _ hle H' E' (fun d0 e=>by cases e;exact hrd)) E'
  | gcall g b x c d hg hx hop hcf hc hm hb =>
    rw [guardB_sound hR.tm hg hx]
    cases x with
    | true =>
      simp only [if_true]
      refine .inl ?_
      unfold Oper.wp
      obtain ⟨F,args,hcal,hok,hfn,hD,hren⟩:=hc rfl
      obtain ⟨vs,hrun,hvs⟩:=call_run (P:=P) hR.tm hop hcal hok hfn
      rw [hrun]
      refine (call_sound (m:=m) hR.H hD [] (wkey nx i) rfl List.nodup_nil (fun i' x h=>by simp at h) hm hb (fun d' h' e=>by rw [e.2];simp) hvs).mono ?_
      rintro e w' ⟨v,I',s',d',h',rfl,⟨rfl,rfl⟩,_,hle,H',E',hrd⟩
      rw [hren] at hrd
      exact hK _ _ I' s' _ [] ⟨rfl,rfl⟩ (hput I' w' s' v _ [] hle H' E' (fun d0 e=>by
        cases e
        exact .when v true _ (fun _=>hrd) (fun h=>by cases h))) E'
    | false =>
      simp only [Bool.false_eq_true,if_false]
      exact hK _ _ I s _ [] ⟨rfl,rfl⟩ (hput I w s undef _ [] (Sg.le_refl _) hR.H (Ext.refl _ _ _ _ _) (fun d' e=>by
        cases e
        exact .when _ false _ (fun h=>by cases h) (fun _=>rfl))) (Ext.refl _ _ _ _ _)
end
def ord (all:Array Oper) (j i:Nat):Bool:=((Region.before all).getD i 0).testBit j
def inWin (nx j k:Nat):Bool:=decide (wkey nx j≤k) && decide (k<wkey nx j+64)
def indep (nx i j:Nat) (rd wr rd' wr':List Nat):Bool :=
  (wr.all fun k => !(rd'.contains k) && !(wr'.contains k)) && (wr'.all fun k => !(rd.contains k)) && ((rd++wr).all fun k => !(inWin nx j k)) && ((rd'++wr').all fun k => !(inWin nx i k))
def lgok (nx:Nat) (all:Array Oper) (lg:Lg) (i:Nat) (rd wr:List Nat):Bool :=
  (List.range all.size).all fun j=>j == i || (match lg j with | none=>true | some (rd',wr')=>ord all j i || ord all i j || indep nx i j rd wr rd' wr')
def isFn (o:Oper):Bool:=match o.op with | .call c=>(match c.callee with | .value _=>true | _=>false) | _=>false
def drawOK (all:Array Oper):Bool :=
  Region.noSelect all && (List.range all.size).all (fun i=>(match all[i]? with | some x=>x.after.all (fun e => !(Region.binds .any e) || decide (e.on<i)) | none=>true)) &&
  (List.range all.size).all fun i => (List.range all.size).all fun j => decide (i ≤ j) || !(ord all i j) && (ord all j i ||
    (match all[i]?,all[j]? with | some x,some y=>x.apart all y && !(isFn x && isFn y) | _,_=>true))
def dop (P:Program) (m nx nt:Nat) (all:Array Oper) (dr:Bool) (i:Nat) (o:Oper) (K:Rs→Prop) (S:Rs):Prop :=
  ∃ rd wr T,Stp P m nx all i o S.tm S.hp rd wr T∧fitsT nt o.dst=true∧(dr=true→lgok nx all S.lg i rd wr=true∧∃ d up,T d up) ∧
    ∀ d up,T d up→K ⟨setT S.tm o.dst d,appUp S.hp up,upd S.lg i (some (rd,wr))⟩
def dops (P : Program) (m nx nt : Nat) (all : Array Oper) (dr : Bool) (K : Rs → Prop) : List Nat → Rs → Prop
  | [],S=>K S
  | i :: r,S=>match all[i]? with
    | some o=>dop P m nx nt all dr i o (dops P m nx nt all dr K r) S
    | none=>False
section
variable {P:Program} {m nx nt:Nat} {all:Array Oper}
theorem dop_mono {dr:Bool} {i:Nat} {o:Oper} {K K':Rs→Prop} (h:∀ S,K S→K' S) {S:Rs} (hd:dop P m nx nt all dr i o K S):dop P m nx nt all dr i o K' S :=
  let ⟨rd,wr,T,h1,h2,h3,h4⟩:=hd
  ⟨rd,wr,T,h1,h2,h3,fun d up ht=>h _ (h4 d up ht)⟩
theorem dop_run {dr : Bool} {i : Nat} {o : Oper} (ho : all[i]? = some o) {I : Nat → Prop} {w : World} {s : Sg} {a : Act} {S : Rs} (hR : Rc I w s a S.tm S.hp nt) {K : Rs → Prop} (h : dop P m nx nt all dr i o K S) {Q : Exit → Act → World → Prop}
    {K':Act→World→Prop} (hK:∀ a' w' I' s' S',K S'→(∃ p,S'.lg=upd S.lg i (some p))→Rc I' w' s' a' S'.tm S'.hp nt→Ext m I w s S.hp I' w' s' S'.hp→K' a' w'):wpOp P all Q i K' a w:=by
  obtain ⟨rd,wr,T,h1,h2,h3,h4⟩:=h
  exact h1.run ho hR h2 fun a' w' I' s' d up ht hR' hE=>hK a' w' I' s' _ (h4 d up ht) ⟨_,rfl⟩ hR' hE
theorem okP_congr {tm tm' : Nat → Option D} : ∀ (l : List Operand), (∀ x ∈ l, evT tm x = evT tm' x) → okP tm l = okP tm' l
  | [],_=>rfl
  | x :: r,h=>by
    simp only [okP,h x (by simp)]
    rw [okP_congr r fun y hy=>h y (by simp [hy])]
theorem evP_congr {tm tm':Nat→Option D} {x:Operand} (h:evT tm x=evT tm' x):evP tm x=evP tm' x:=by simp only [evP,h]
theorem pop_hp {e:Operand→Option D} {hp hp':Hp} {o:Op} (h:∀ k ∈ rdKeys e o,hp k=hp' k):pop P e hp o=pop P e hp' o:=by
  cases o with
  | load t x =>
    have hk:∀ k off,e x=some (.c (.ptr k off))→hp k=hp' k:=fun k off hx=>h k (by simp [rdKeys,hx])
    simp only [pop]
    split
    · rename_i k off g n hx _ _
      rw [hk k off hx]
    · rfl
    · rfl
  | makeFunc fn first caps=>cases fn<;>simp only [pop]
  | slice t x lo hi mx=>cases mx<;>cases lo<;>cases hi<;>simp only [pop]
  | _=>rfl
theorem target_hp {hp hp':Hp} {d:D} (h:∀ k ∈ mslKey d,hp k=hp' k):target hp d=target hp' d:=by
  unfold target
  split
  · rename_i k _ _
    rw [h k (by simp [mslKey])]
  · rfl
  · rfl
  · rfl
theorem lends_hp {hp hp':Hp} {d:D} (h:∀ k ∈ mslKey d,hp k=hp' k):lends hp d=lends hp' d:=by
  unfold lends
  split
  · rfl
  · rename_i k _ _ _
    rw [h k (by simp [mslKey])]
  · rfl
  · rfl
  · rfl
theorem stp_agree {key : Nat} {tm tm' : Nat → Option D} {hp hp' : Hp} {o : Op} {out : Out} (h : stp P m key tm hp o = some out) (ht : ∀ x ∈ o.operands.toList, evT tm x = evT tm' x)
    (hh:∀ k,k ∈ out.rd∨k ∈ out.up.map (·.1)∨k=key→hp k=hp' k):stp P m key tm' hp' o=some out:=by
  have hpop:(match pop P (evP tm) hp o with | some (vc,d)=>some (⟨okP tm o.operands.toList∧vc,some d,rdKeys (evP tm) o,[]⟩:Out) | none=>none)=some out →
      (match pop P (evP tm') hp' o with | some (vc,d)=>some (⟨okP tm' o.operands.toList∧vc,some d,rdKeys (evP tm') o,[]⟩:Out) | none=>none)=some out:=fun h=>by
    have e1:pop P (evP tm) hp o=pop P (evP tm') hp o:=pop_congr fun x hx=>evP_congr (ht x hx)
    have e2:rdKeys (evP tm) o=rdKeys (evP tm') o:=by
      cases o with
      | load t x=>simp only [rdKeys,evP_congr (ht x (by simp [Op.operands]))]
      | _=>rfl
    have e3:okP tm o.operands.toList=okP tm' o.operands.toList:=okP_congr _ ht
    rw [e1,e2,e3] at h
    have e4:pop P (evP tm') hp o=pop P (evP tm') hp' o:=pop_hp fun k hk=>hh k (.inl (by
      split at h
      · simp only [Option.some.injEq] at h
        rw [← h];exact hk
      · cases h))
    rw [e4] at h
    exact h
  cases o with
  | pick c x y =>
    simp only [Op.operands] at ht
    have h1:=ht c (by simp);have h2:=ht x (by simp);have h3:=ht y (by simp)
    simp only [stp,evP,okP,h1,h2,h3] at h ⊢
    exact h
  | alloc T =>
    simp only [stp] at h ⊢
    split at h
    · split at h
      · rename_i h1
        rw [if_pos h1]
        simp only [Option.some.injEq] at h
        rw [hh key (.inr (.inr rfl))] at h
        rw [h]
      · cases h
    · cases h
  | box T x =>
    simp only [Op.operands] at ht
    have h1:=ht x (by simp)
    simp only [stp,evP,okP,h1] at h ⊢
    split at h
    · split at h
      · simp only [Option.some.injEq] at h
        rw [hh key (.inr (.inr rfl))] at h
        simp only [h]
      · cases h
    · cases h
  | buildSlice t n ps =>
    simp only [Op.operands] at ht
    have hps:∀ x ∈ ps.toList.map (·.2),evT tm x=evT tm' x:=fun x hx=>ht x (by simpa using hx)
    have e1:∀ sz,partsS P sz (evP tm) 0 ps.toList=partsS P sz (evP tm') 0 ps.toList:=fun sz=>partsS_congr (P:=P) ps.toList 0 fun x hx=>evP_congr (hps x hx)
    have e2:okP tm (ps.toList.map (·.2))=okP tm' (ps.toList.map (·.2)):=okP_congr _ hps
    simp only [stp,e1,e2] at h ⊢
    split at h
    · split at h
      · simp only [Option.some.injEq] at h
        rw [hh key (.inr (.inr rfl))] at h
        simp only [h]
      · cases h
    · cases h
  | store t x y =>
    simp only [Op.operands] at ht
    have h1:=ht x (by simp);have h2:=ht y (by simp)
    simp only [stp,evP,okP,h1,h2] at h ⊢
    split at h
    · rename_i k off d n _ _ _
      split at h
      · rename_i cs ds hcs hds
        simp only [Option.some.injEq] at h
        have hk:hp k=hp' k:=hh k (.inl (by rw [← h];simp))
        rw [← hk,hcs]
        simp only [hds,h]
      · cases h
    · cases h
  | makeSlice t l c =>
    simp only [Op.operands] at ht
    have h1:=ht l (by simp);have h2:=ht c (by simp)
    simp only [stp,evP,okP,h1,h2] at h ⊢
    split at h
    · split at h
      · rename_i hz
        simp only [Option.some.injEq] at h
        rw [hh key (.inr (.inr rfl))] at h
        simp only [hz,if_true,h]
      · cases h
    · cases h
  | call c =>
    obtain ⟨callee,args,argTypes⟩:=c
    cases callee with
    | builtin b =>
      cases b
      case append =>
        simp only [stp] at h ⊢
        split at h
        · rename_i x y t t' ha hat
          simp only [Op.operands,Call.operands,Array.toList_append,ha,List.mem_append] at ht
          have h1:=ht x (by simp);have h2:=ht y (by simp)
          simp only [evP,okP,h1,h2] at h ⊢
          split at h
          · rename_i dx dy sz zs by' hx hy hsz hzs hby
            split at h
            · rename_i ko len cs n sz' ys htg hld
              simp only [Option.some.injEq] at h
              have hkx:∀ k ∈ mslKey dx,hp k=hp' k:=fun k hk=>hh k (.inl (by rw [← h];simp [hk]))
              have hky:∀ k ∈ mslKey dy,hp k=hp' k:=fun k hk=>hh k (.inl (by rw [← h];simp [hk]))
              have et:=target_hp hkx
              have el:=lends_hp hky
              rw [← et,htg,← el,hld]
              rw [hh key (.inr (.inr rfl))] at h
              simp only [h]
            · cases h
          · cases h
        · cases h
      case clear =>
        simp only [stp] at h ⊢
        split at h
        · rename_i x t ha hat
          simp only [Op.operands,Call.operands,Array.toList_append,ha,List.mem_append] at ht
          have h1:=ht x (by simp)
          simp only [evP,okP,h1] at h ⊢
          split at h
          · rename_i k sz off len sz' zs hx hsz hzs
            split at h
            · rename_i cs hcs
              split at h
              · rename_i hz
                simp only [Option.some.injEq] at h
                have hk:hp k=hp' k:=hh k (.inl (by rw [← h];simp))
                rw [← hk,hcs]
                simp only [hz,if_true,h]
              · cases h
            · cases h
          · cases h
        · cases h
      all_goals exact hpop h
    | value f=>exact hpop h
    | invoke r mth=>exact hpop h
  | _=>exact hpop h
end
section
variable {P:Program} {m nx nt:Nat} {all:Array Oper}
theorem argsOf_congr {tm tm' : Nat → Option D} : ∀ (l : List Operand), (∀ x ∈ l, evT tm x = evT tm' x) → argsOf tm l = argsOf tm' l
  | [],_=>rfl
  | x :: r,h=>by simp only [argsOf,evP_congr (h x (by simp)),argsOf_congr r fun y hy=>h y (by simp [hy])]
theorem calleeOf_congr {tm tm':Nat→Option D} {c:Call} (h:∀ x ∈ c.operands.toList,evT tm x=evT tm' x):calleeOf tm c=calleeOf tm' c:=by
  obtain ⟨callee,args,at'⟩:=c
  cases callee with
  | value f =>
    simp only [Call.operands,Array.toList_append,List.mem_append] at h
    simp only [calleeOf,evP_congr (h f (by simp)),argsOf_congr args.toList fun x hx=>h x (.inr hx)]
  | _=>rfl
theorem guardB_congr {tm tm':Nat→Option D} {g:Nat} {b:Bool} (h:∀ t,(all[g]?).bind (·.dst)=some t→tm t=tm' t):guardB all tm g b=guardB all tm' g b:=by
  unfold guardB
  cases ht:(all[g]?).bind (·.dst) with
  | none=>rfl
  | some t=>simp only [h t ht]
structure Agree (nx : Nat) (all : Array Oper) (i : Nat) (o : Oper) (rd wr : List Nat) (tm tm' : Nat → Option D) (hp hp' : Hp) : Prop where
  atm:∀ t ∈ o.looksAt all,tm t=tm' t
  ahp:∀ k,k ∈ rd∨k ∈ wr→hp k=hp' k
  awin:∀ j,j<64→hp (wkey nx i+j)=hp' (wkey nx i+j)
theorem Agree.ops {i:Nat} {o:Oper} {rd wr:List Nat} {tm tm':Nat→Option D} {hp hp':Hp} (h:Agree nx all i o rd wr tm tm' hp hp'):∀ x ∈ o.op.operands.toList,evT tm x=evT tm' x:=fun x hx=>by
  cases x with
  | tmp t=>exact h.atm t (List.mem_append_left _ (List.mem_filterMap.2 ⟨.tmp t,hx,rfl⟩))
  | _=>rfl
theorem Agree.guard {i:Nat} {o:Oper} {rd wr:List Nat} {tm tm':Nat→Option D} {hp hp':Hp} (h:Agree nx all i o rd wr tm tm' hp hp') {g:Nat} {b:Bool} (hg:o.guard=some (g,b)):guardB all tm g b=guardB all tm' g b :=
  guardB_congr fun t ht=>h.atm t (List.mem_append_right _ (by simp [hg,ht]))
theorem Agree.symm {i:Nat} {o:Oper} {rd wr:List Nat} {tm tm':Nat→Option D} {hp hp':Hp} (h:Agree nx all i o rd wr tm tm' hp hp'):Agree nx all i o rd wr tm' tm hp' hp :=
  ⟨fun t ht=>(h.atm t ht).symm,fun k hk=>(h.ahp k hk).symm,fun j hj=>(h.awin j hj).symm⟩
theorem gkey_congr {tm tm':Nat→Option D} {op:Op} (h:∀ x ∈ op.operands.toList,evT tm x=evT tm' x):gkey tm op=gkey tm' op:=by
  unfold gkey
  split
  · rename_i t x
    rw [evP_congr (h x (by simp [Op.operands]))]
  · rfl
theorem GN.agree {key:Nat} {tm tm':Nat→Option D} {hp hp':Hp} {op:Op} {rd:List Nat} (h:GN P m key tm hp op rd) (hops:∀ x ∈ op.operands.toList,evT tm x=evT tm' x) (hk:∀ k ∈ rd,hp k=hp' k):GN P m key tm' hp' op rd:=by
  have no:∀ hp0,stp P m key tm hp0 op=none→stp P m key tm' hp0 op=none:=fun hp0 h0=>by
    cases h':stp P m key tm' hp0 op with
    | none=>rfl
    | some out' =>
      have:=stp_agree h' (fun x hx=>(hops x hx).symm) (hp':=hp0) (fun k _=>rfl)
      rw [h0] at this
      cases this
  unfold GN at h ⊢
  rw [← gkey_congr hops]
  split at h
  · exact ⟨h.1,fun hp0=>no hp0 (h.2 hp0)⟩
  · rename_i k e
    obtain ⟨rfl,h2⟩:=h
    exact ⟨rfl,by rw [← gkey_agree (by rw [← gkey_congr hops];exact e) (hk k (by simp))];exact no hp h2⟩
theorem Stp.agree {i : Nat} {o : Oper} {tm tm' : Nat → Option D} {hp hp' : Hp} {rd wr : List Nat} {T : Option D → List (Nat × Option (List C)) → Prop} (h : Stp P m nx all i o tm hp rd wr T)
    (hA:Agree nx all i o rd wr tm tm' hp hp'):Stp P m nx all i o tm' hp' rd wr T:=by
  have hops:=hA.ops
  have hkey:hp (wkey nx i)=hp' (wkey nx i):=by simpa using hA.awin 0 (by omega)
  cases h with
  | plain out hg h hvc=>exact .plain out hg (stp_agree h hops fun k hk=>by
      rcases hk with h1 | h1 | h1
      · exact hA.ahp k (.inl h1)
      · exact hA.ahp k (.inr h1)
      · rw [h1];exact hkey) hvc
  | gplain g b x out hg hx h hup hvc =>
    exact .gplain g b x out hg (by rw [← hA.guard hg];exact hx) (stp_agree h hops fun k hk=>by
      rcases hk with h1 | h1 | h1
      · exact hA.ahp k (.inl h1)
      · rw [hup] at h1;simp at h1
      · rw [h1];exact hkey) hup hvc
  | gon g b out hg hm hx h hvc =>
    exact .gon g b out hg hm (by rw [← hA.guard hg];exact hx) (stp_agree h hops fun k hk=>by
      rcases hk with h1 | h1 | h1
      · exact hA.ahp k (.inl h1)
      · exact hA.ahp k (.inr h1)
      · rw [h1];exact hkey) hvc
  | goff g b hg hm hx=>exact .goff g b hg hm (by rw [← hA.guard hg];exact hx)
  | gnone g b _ hg hx h hnc=>exact .gnone g b _ hg (by rw [← hA.guard hg];exact hx) (h.agree hops fun k hk=>hA.ahp k (.inl hk)) hnc
  | call c F args _ h R hg hop hc hok hfn hD hks hnd hhp hm hb hlen =>
    have hco:∀ x ∈ c.operands.toList,evT tm x=evT tm' x:=by
      intro x hx
      exact hops x (by rw [hop];exact hx)
    refine .call c F args _ h R (hg.imp id fun ⟨g,b,hg,hx⟩=>⟨g,b,hg,by rw [← hA.guard hg];exact hx⟩) hop (by rw [← calleeOf_congr hco];exact hc) (by rw [← okP_congr _ hco];exact hok) hfn hD hks hnd (fun i' x hx=>?_) hm (fun j hj=>by rw [← hA.awin j hj];exact hb j hj) hlen
    have hlt:i' < rd.length:=by
      have:=(List.getElem?_eq_some_iff.1 hx).1
      omega
    rw [← hA.ahp _ (.inl (by rw [List.getD_eq_getElem?_getD,List.getElem?_eq_getElem hlt];simp))]
    exact hhp i' x hx
  | rcall c F args _ h R hg hop hc hok hfn hD hks hnd hhp hm hb hsame hkf =>
    have hco:∀ x ∈ c.operands.toList,evT tm x=evT tm' x:=by
      intro x hx
      exact hops x (by rw [hop];exact hx)
    refine .rcall c F args _ h R (hg.imp id fun ⟨g,b,hg,hx⟩=>⟨g,b,hg,by rw [← hA.guard hg];exact hx⟩) hop (by rw [← calleeOf_congr hco];exact hc) (by rw [← okP_congr _ hco];exact hok) hfn hD hks hnd (fun i' x hx=>?_) hm (fun j hj=>by rw [← hA.awin j hj];exact hb j hj) hsame hkf
    have hlt:i' < rd.length:=by
      have:=(List.getElem?_eq_some_iff.1 hx).1
      omega
    rw [← hA.ahp _ (.inl (by rw [List.getD_eq_getElem?_getD,List.getElem?_eq_getElem hlt];simp))]
    exact hhp i' x hx
  | gcall g b x c d hg hx hop hcf hc hm hb =>
    have hco:∀ x ∈ c.operands.toList,evT tm x=evT tm' x:=by
      intro x hx
      exact hops x (by rw [hop];exact hx)
    refine .gcall g b x c d hg (by rw [← hA.guard hg];exact hx) hop hcf (fun hxt=>?_) hm (fun j hj=>by rw [← hA.awin j hj];exact hb j hj)
    obtain ⟨F,args,h1,h2,h3⟩:=hc hxt
    exact ⟨F,args,by rw [← calleeOf_congr hco];exact h1,by rw [← okP_congr _ hco];exact h2,h3⟩
theorem Stp.uniq {i : Nat} {o : Oper} (hf : isFn o = false) {tm : Nat → Option D} {hp : Hp} {rd wr rd' wr' : List Nat} {T T' : Option D → List (Nat × Option (List C)) → Prop} (h : Stp P m nx all i o tm hp rd wr T)
    (h':Stp P m nx all i o tm hp rd' wr' T'):rd=rd'∧wr=wr'∧T=T'∧∃ d up,T=fun d' up'=>d'=d∧up'=up:=by
  have hno:∀ {c:Call} {F:FuncId} {ds:List D},o.op = .call c→calleeOf tm c=some (F,ds)→False:=fun {c F ds} e hc=>by
    unfold isFn at hf
    rw [e] at hf
    simp only at hf
    unfold calleeOf at hc
    split at hc
    · rename_i f hcal
      rw [hcal] at hf
      cases hf
    · cases hc
  have hno2:∀ {c:Call},o.op = .call c→(∃ f,c.callee = .value f)→False:=fun {c} e ⟨f,hcf⟩=>by
    unfold isFn at hf
    rw [e] at hf
    simp only [hcf] at hf
    cases hf
  cases h with
  | plain out hg h hvc =>
    cases h' with
    | plain out' hg' h' hvc' =>
      rw [h] at h'
      cases h'
      exact ⟨rfl,rfl,rfl,_,_,rfl⟩
    | gplain g b x out' hg'=>rw [hg] at hg';cases hg'
    | gnone g b _ hg'=>rw [hg] at hg';cases hg'
    | gon g b out' hg'=>rw [hg] at hg';cases hg'
    | goff g b hg'=>rw [hg] at hg';cases hg'
    | call c F args _ h R hg hop hc=>exact (hno hop hc).elim
    | gcall g b x c d hg'=>rw [hg] at hg';cases hg'
    | rcall c F args _ h R hg hop hc=>exact (hno hop hc).elim
  | gon g b out hg hm hx h hvc =>
    cases h' with
    | plain out' hg'=>rw [hg] at hg';cases hg'
    | gplain g' b' x' out' hg' hx' h' hup' hvc'=>exact absurd hup' (mayUp_up hm h')
    | gnone g' b' _ hg' hx' h'=>rw [h'.non] at h;cases h
    | gon g' b' out' hg' hm' hx' h' hvc' =>
      rw [h] at h'
      cases h'
      exact ⟨rfl,rfl,rfl,_,_,rfl⟩
    | goff g' b' hg' hm' hx' =>
      rw [hg] at hg'
      cases hg'
      rw [hx] at hx'
      cases hx'
    | call c F args _ h R hg' hop hc=>exact (hno hop hc).elim
    | gcall g' b' x' c d hg' hx' hop hcf=>exact (hno2 hop hcf).elim
    | rcall c F args _ h R hg' hop hc=>exact (hno hop hc).elim
  | goff g b hg hm hx =>
    cases h' with
    | plain out' hg'=>rw [hg] at hg';cases hg'
    | gplain g' b' x' out' hg' hx' h' hup' hvc'=>exact absurd hup' (mayUp_up hm h')
    | gnone g' b' _ hg' hx' h' =>
      obtain rfl:=h'.up hm
      exact ⟨rfl,rfl,rfl,_,_,rfl⟩
    | gon g' b' out' hg' hm' hx' h' hvc' =>
      rw [hg] at hg'
      cases hg'
      rw [hx] at hx'
      cases hx'
    | goff g' b' hg' hm' hx'=>exact ⟨rfl,rfl,rfl,_,_,rfl⟩
    | call c F args _ h R hg' hop hc=>exact (hno hop hc).elim
    | gcall g' b' x' c d hg' hx' hop hcf=>exact (hno2 hop hcf).elim
    | rcall c F args _ h R hg' hop hc=>exact (hno hop hc).elim
  | gplain g b x out hg hx h hup hvc =>
    cases h' with
    | plain out' hg'=>rw [hg] at hg';cases hg'
    | gplain g' b' x' out' hg' hx' h' hup' hvc' =>
      rw [hg] at hg'
      cases hg'
      rw [hx] at hx'
      cases hx'
      rw [h] at h'
      cases h'
      exact ⟨rfl,rfl,rfl,_,_,rfl⟩
    | gnone g' b' _ hg' hx' h'=>rw [h'.non] at h;cases h
    | gon g' b' out' hg' hm' hx' h' hvc'=>exact absurd hup (mayUp_up hm' h)
    | goff g' b' hg' hm' hx'=>exact absurd hup (mayUp_up hm' h)
    | call c F args _ h R hg' hop hc=>exact (hno hop hc).elim
    | gcall g' b' x' c d hg' hx' hop hcf=>exact (hno2 hop hcf).elim
    | rcall c F args _ h R hg' hop hc=>exact (hno hop hc).elim
  | gnone g b _ hg hx h hnc =>
    cases h' with
    | plain out' hg'=>rw [hg] at hg';cases hg'
    | gplain g' b' x' out' hg' hx' h'=>rw [h.non] at h';cases h'
    | gnone g' b' _ hg' hx' h' =>
      obtain rfl:=h.rds h'
      exact ⟨rfl,rfl,rfl,_,_,rfl⟩
    | gon g' b' out' hg' hm' hx' h' hvc'=>rw [h.non] at h';cases h'
    | goff g' b' hg' hm' hx' =>
      obtain rfl:=h.up hm'
      exact ⟨rfl,rfl,rfl,_,_,rfl⟩
    | call c F args _ h R hg' hop hc=>exact (hno hop hc).elim
    | gcall g' b' x' c d hg' hx' hop hcf=>exact (hno2 hop hcf).elim
    | rcall c F args _ h R hg' hop hc=>exact (hno hop hc).elim
  | call c F args _ h R hg hop hc=>exact (hno hop hc).elim
  | rcall c F args _ h R hg hop hc=>exact (hno hop hc).elim
  | gcall g b x c d hg hx hop hcf=>exact (hno2 hop hcf).elim
theorem Stp.keys {i : Nat} {o : Oper} {tm : Nat → Option D} {hp : Hp} {rd wr : List Nat} {T : Option D → List (Nat × Option (List C)) → Prop} (h : Stp P m nx all i o tm hp rd wr T) {d : Option D} {up : List (Nat × Option (List C))} (ht : T d up) :
    ∀ p ∈ up,p.1 ∈ wr∨inWin nx i p.1=true:=by
  cases h with
  | plain out hg h hvc =>
    obtain ⟨rfl,rfl⟩:=ht
    exact fun p hp => .inl (List.mem_map.2 ⟨p,hp,rfl⟩)
  | gplain g b x out hg hx h hup hvc =>
    obtain ⟨_,rfl⟩:=ht
    exact fun p hp=>by simp at hp
  | gon g b out hg hm hx h hvc =>
    obtain ⟨rfl,rfl⟩:=ht
    exact fun p hp => .inl (List.mem_map.2 ⟨p,hp,rfl⟩)
  | goff g b hg hm hx =>
    obtain ⟨_,rfl⟩:=ht
    exact fun p hp=>by simp at hp
  | gnone g b _ hg hx h hnc =>
    obtain ⟨_,rfl⟩:=ht
    exact fun p hp=>by simp at hp
  | rcall c F args _ h R hg hop hc hok hfn hD hks hnd hhp hm hb hsame hkf =>
    obtain ⟨_,_,_,rfl⟩:=ht
    exact fun p hp=>by simp at hp
  | gcall g b x c d hg hx hop hcf hc hm hb =>
    obtain ⟨_,rfl⟩:=ht
    exact fun p hp=>by simp at hp
  | call c F args _ h R hg hop hc hok hfn hD hks hnd hhp hm hb hlen =>
    obtain ⟨d',h',hR,_,_,rfl⟩:=ht
    have hl:=hlen d' h' hR
    have key:∀ (l:List (Option (List C))) (j:Nat),j+l.length≤h'.length→∀ p ∈ upsFrom (rkey rd (wkey nx i)) j l,p.1 ∈ rd∨inWin nx i p.1=true:=by
      intro l
      induction l with
      | nil=>intro j _ p hp;simp [upsFrom] at hp
      | cons x l ih =>
        intro j hj p hp
        simp only [List.length_cons] at hj
        simp only [upsFrom,List.mem_cons] at hp
        rcases hp with rfl | hp
        · simp only [rkey]
          by_cases hlt:j<rd.length
          · rw [if_pos hlt,List.getD_eq_getElem?_getD,List.getElem?_eq_getElem hlt]
            exact .inl (by simp)
          · rw [if_neg hlt]
            refine .inr ?_
            simp only [inWin,Bool.and_eq_true,decide_eq_true_eq]
            omega
        · exact ih (j+1) (by omega) p hp
    exact key h' 0 (by omega)
theorem appUp_other : ∀ (up : List (Nat × Option (List C))) (hp : Hp) (k : Nat), (∀ p ∈ up, p.1 ≠ k) → appUp hp up k = hp k
  | [],_,_,_=>rfl
  | (j,x) :: r,hp,k,h=>by
    simp only [appUp]
    rw [appUp_other r _ k fun p hp=>h p (by simp [hp])]
    exact upd_ne _ _ (fun e=>h (j,x) (by simp) e.symm)
theorem upd_comm {α:Type} (f:Nat→α) {a b:Nat} (h:a ≠ b) (x y:α):upd (upd f a x) b y=upd (upd f b y) a x:=by
  funext k
  simp only [upd]
  by_cases h1:k=a
  · subst h1;simp [h]
  · by_cases h2:k=b
    · subst h2;simp [h1]
    · simp [h1,h2]
theorem appUp_upd : ∀ (up : List (Nat × Option (List C))) (hp : Hp) (k : Nat) (x : Option (Option (List C))), (∀ p ∈ up, p.1 ≠ k) → appUp (upd hp k x) up = upd (appUp hp up) k x
  | [],_,_,_,_=>rfl
  | (j,y) :: r,hp,k,x,h=>by
    simp only [appUp]
    rw [upd_comm hp (fun e=>h (j,y) (by simp) e.symm)]
    exact appUp_upd r _ k x fun p hp=>h p (by simp [hp])
theorem appUp_comm : ∀ (a b : List (Nat × Option (List C))) (hp : Hp), (∀ p ∈ a, ∀ q ∈ b, p.1 ≠ q.1) → appUp (appUp hp a) b = appUp (appUp hp b) a
  | [],_,_,_=>rfl
  | (j,x) :: r,b,hp,h=>by
    simp only [appUp]
    rw [appUp_comm r b _ fun p hp q hq=>h p (by simp [hp]) q hq]
    rw [appUp_upd b hp j (some x) fun q hq e=>h (j,x) (by simp) q hq e.symm]
theorem setT_comm (tm:Nat→Option D) {x y:Option Tmp} (h:∀ d,x=some d→y ≠ some d) (u v:Option D):setT (setT tm x u) y v=setT (setT tm y v) x u:=by
  cases x with
  | none=>rfl
  | some a =>
    cases y with
    | none=>rfl
    | some b=>exact upd_comm tm (fun e=>h a rfl (by rw [e])) u v
theorem setT_other (tm:Nat→Option D) {x:Option Tmp} {t:Tmp} (h:x ≠ some t) (u:Option D):setT tm x u t=tm t:=by
  cases x with
  | none=>rfl
  | some a=>exact upd_ne _ _ (fun e=>h (by rw [e]))
theorem inWin_disj {i j k:Nat} (hij:i ≠ j) (h:inWin nx i k=true):inWin nx j k=false:=by
  simp only [inWin,wkey,Bool.and_eq_true,decide_eq_true_eq] at h
  simp only [inWin,wkey,Bool.and_eq_false_iff,decide_eq_false_iff_not]
  rcases Nat.lt_or_ge i j with h1 | h1<;>omega
theorem indep_spec {i j : Nat} {rd wr rd' wr' : List Nat} (h : indep nx i j rd wr rd' wr' = true) :
    (∀ k ∈ wr,k ∉ rd'∧k ∉ wr')∧(∀ k ∈ wr',k ∉ rd)∧(∀ k,k ∈ rd∨k ∈ wr→inWin nx j k=false)∧(∀ k,k ∈ rd'∨k ∈ wr'→inWin nx i k=false):=by
  simp only [indep,Bool.and_eq_true,List.all_eq_true,List.mem_append,Bool.not_eq_true',List.contains_eq_mem,decide_eq_false_iff_not] at h
  obtain ⟨⟨⟨h1,h2⟩,h3⟩,h4⟩:=h
  exact ⟨h1,h2,h3,h4⟩
theorem indep_symm {i j:Nat} {rd wr rd' wr':List Nat} (h:indep nx i j rd wr rd' wr'=true):indep nx j i rd' wr' rd wr=true:=by
  obtain ⟨h1,h2,h3,h4⟩:=indep_spec h
  simp only [indep,Bool.and_eq_true,List.all_eq_true,List.mem_append,Bool.not_eq_true',List.contains_eq_mem,decide_eq_false_iff_not]
  exact ⟨⟨⟨fun k hk=>⟨h2 k hk,fun hk'=>(h1 k hk').2 hk⟩,fun k hk=>(h1 k hk).1⟩,h4⟩,h3⟩
theorem agree_after {i j : Nat} {oi oj : Oper} (hij : i ≠ j) (hap : oi.apart all oj = true) {rd wr rd' wr' : List Nat} (hin : indep nx i j rd wr rd' wr' = true) {tm : Nat → Option D} {hp : Hp} {T : Option D → List (Nat × Option (List C)) → Prop}
    (hi:Stp P m nx all i oi tm hp rd wr T) {d:Option D} {up:List (Nat × Option (List C))} (ht:T d up):Agree nx all j oj rd' wr' tm (setT tm oi.dst d) hp (appUp hp up):=by
  obtain ⟨h1,h2,h3,h4⟩:=indep_spec hin
  obtain ⟨a1,a2,a3⟩:=Oper.apart_spec hap
  have hk:=hi.keys ht
  refine ⟨fun t htm=>(setT_other tm (fun e=>a1 t e htm) d).symm,fun k hk'=>(appUp_other up hp k fun p hp e=>?_).symm,fun j' hj'=>(appUp_other up hp _ fun p hp e=>?_).symm⟩
  · rcases hk p hp with h | h
    · rw [e] at h
      rcases hk' with hk' | hk'
      · exact (h1 k h).1 hk'
      · exact (h1 k h).2 hk'
    · rw [e,h4 k hk'] at h;cases h
  · have hw:inWin nx j (wkey nx j+j')=true:=by simp only [inWin,Bool.and_eq_true,decide_eq_true_eq];omega
    rcases hk p hp with h | h
    · rw [e] at h
      rw [h3 _ (.inr h)] at hw;cases hw
    · rw [e] at h
      rw [inWin_disj hij h] at hw;cases hw
theorem lgok_at {lg:Lg} {i j:Nat} {rd wr rd' wr':List Nat} (h:lgok nx all lg i rd wr=true) (hj:j<all.size) (hne:j ≠ i) (hl:lg j=some (rd',wr')) (h1:ord all i j=false) (h2:ord all j i=false):indep nx i j rd wr rd' wr'=true:=by
  simp only [lgok,List.all_eq_true,List.mem_range] at h
  have:=h j hj
  simpa [hl,hne,h1,h2] using this
theorem lgok_less {lg:Lg} {i j:Nat} {rd wr:List Nat} {p:Option (List Nat × List Nat)} (h:lgok nx all (upd lg j p) i rd wr=true) (hl:lg j=none):lgok nx all lg i rd wr=true:=by
  simp only [lgok,List.all_eq_true,List.mem_range] at h ⊢
  intro k hk
  have:=h k hk
  by_cases e:k=j
  · subst e;simp [hl]
  · rwa [upd_ne _ _ e] at this
theorem lgok_more {lg:Lg} {i j:Nat} {rd wr rd' wr':List Nat} (h:lgok nx all lg i rd wr=true) (hin:indep nx i j rd wr rd' wr'=true):lgok nx all (upd lg j (some (rd',wr'))) i rd wr=true:=by
  simp only [lgok,List.all_eq_true,List.mem_range] at h ⊢
  intro k hk
  by_cases e:k=j
  · subst e;simp [upd_same,hin]
  · rw [upd_ne _ _ e];exact h k hk
theorem dop_swap {i j : Nat} {oi oj : Oper} (hi : i < all.size) (hj : j < all.size) (hij : i ≠ j) (hap : oi.apart all oj = true) (hfn : (isFn oi && isFn oj) = false) (h1 : ord all i j = false) (h2 : ord all j i = false) {K : Rs → Prop} {S : Rs} (hli : S.lg i = none) (hlj : S.lg j = none)
    (h:dop P m nx nt all true i oi (dop P m nx nt all true j oj K) S):dop P m nx nt all true j oj (dop P m nx nt all true i oi K) S:=by
  have hap':oj.apart all oi=true:=by
    obtain ⟨a1,a2,a3⟩:=Oper.apart_spec hap
    simp only [Oper.apart,Bool.and_eq_true]
    constructor
    · cases hd:oj.dst with
      | none=>rfl
      | some d =>
        have:=a3 d hd
        have h3:oi.dst ≠ some d:=fun e=>a2 d e hd
        simp [this,h3]
    · cases hd:oi.dst with
      | none=>rfl
      | some d=>simp [a1 d hd]
  obtain ⟨rdi,wri,Ti,hSi,hfi,hdi,hKi⟩:=h
  obtain ⟨hlgi,d0,up0,ht0⟩:=hdi rfl
  obtain ⟨rdj,wrj,Tj,hSj,hfj,hdj,hKj⟩:=hKi d0 up0 ht0
  obtain ⟨hlgj,dj0,upj0,htj0⟩:=hdj rfl
  have hin:indep nx j i rdj wrj rdi wri=true:=lgok_at hlgj hi hij (upd_same _ _ _) h2 h1
  have hin':=indep_symm hin
  have hSj0:Stp P m nx all j oj S.tm S.hp rdj wrj Tj:=hSj.agree (agree_after hij hap hin' hSi ht0).symm
  refine ⟨rdj,wrj,Tj,hSj0,hfj,fun _=>⟨lgok_less hlgj hli,dj0,upj0,htj0⟩,fun dj upj htj=>?_⟩
  refine ⟨rdi,wri,Ti,hSi.agree (agree_after (Ne.symm hij) hap' hin hSj0 htj),hfi,fun _=>⟨lgok_more hlgi hin',d0,up0,ht0⟩,fun di upi hti=>?_⟩
  -- the same state, by either order
  have hst : (⟨setT (setT S.tm oj.dst dj) oi.dst di, appUp (appUp S.hp upj) upi, upd (upd S.lg j (some (rdj, wrj))) i (some (rdi, wri))⟩ : Rs) =
      ⟨setT (setT S.tm oi.dst di) oj.dst dj,appUp (appUp S.hp upi) upj,upd (upd S.lg i (some (rdi,wri))) j (some (rdj,wrj))⟩:=by
    obtain ⟨a1,a2,a3⟩:=Oper.apart_spec hap'
    obtain ⟨k1,k2,k3,k4⟩:=indep_spec hin
    congr 1
    · exact setT_comm S.tm a2 dj di
    · refine appUp_comm upj upi S.hp fun p hp q hq e=>?_
      rcases hSj0.keys htj p hp with hp | hp<;>rcases hSi.keys hti q hq with hq | hq
      · exact (k1 _ hp).2 (e ▸ hq)
      · have:=k3 _ (.inr hp)
        rw [e,hq] at this;cases this
      · have:=k4 _ (.inr hq)
        rw [← e,hp] at this;cases this
      · have:=inWin_disj (Ne.symm hij) hp
        rw [e,hq] at this;cases this
    · exact upd_comm S.lg (Ne.symm hij) _ _
  rw [hst]
  cases hfi':isFn oi with
  | false =>
    -- the first one is no call: it leaves one state alone
    obtain ⟨_,_,_,da,upa,hTe⟩:=hSi.uniq hfi' hSi
    have e1:di=d0∧upi=up0:=by
      rw [hTe] at hti ht0
      exact ⟨hti.1.trans ht0.1.symm,hti.2.trans ht0.2.symm⟩
    rw [e1.1,e1.2]
    exact hKj dj upj htj
  | true =>
    have hfj':isFn oj=false:=by simpa [hfi'] using hfn
    obtain ⟨rdj',wrj',Tj',hSj',_,hdj',hKj'⟩:=hKi di upi hti
    obtain ⟨hlgj',_⟩:=hdj' rfl
    have hinb:indep nx j i rdj' wrj' rdi wri=true:=lgok_at hlgj' hi hij (upd_same _ _ _) h2 h1
    have hSjb:Stp P m nx all j oj S.tm S.hp rdj' wrj' Tj':=hSj'.agree (agree_after hij hap (indep_symm hinb) hSi hti).symm
    obtain ⟨e1,e2,e3,_⟩:=Stp.uniq hfj' hSj0 hSjb
    have:=hKj' dj upj (e3 ▸ htj)
    rw [← e1,← e2] at this
    exact this
end
end Go.CT
