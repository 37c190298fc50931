/- Contracts of functions of the program, one behind the other, as plain data: what each call returns and which blocks it leaves. -/
import Derived.Test.YtbknljofedfpjaaGreatXFacts
import Derived.Test.YtbknljofedfpjaaGreatXAi
import Derived.Test.YtbknljofedfpjaaGreatXAk
import Derived.Test.YtbknljofedfpjaaGreatXAm
import Derived.Test.YtbknljofedfpjaaGreatXAo
import Derived.Test.YtbknljofedfpjaaGreatXAq
import Derived.Test.YtbknljofedfpjaaGreatXAr
import Derived.Test.YtbknljofedfpjaaGreatXAw
import Derived.Test.YtbknljofedfpjaaGreatXAx
import Derived.Test.YtbknljofedfpjaaGreatXAz
import Derived.Test.YtbknljofedfpjaaGreatXAl
import Derived.Test.YtbknljofedfpjaaGreatXAn
import Derived.Test.YtbknljofedfpjaaGreatXAp
import Derived.Test.YtbknljofedfpjaaGreatXAs
set_option linter.unusedVariables false
set_option linter.unusedSimpArgs false
set_option linter.unusedSectionVars false
set_option maxHeartbeats 16000000
set_option maxRecDepth 100000
namespace Go.Proofs.YtbknljofedfpjaaGreat.CtL
variable [Go.CT.Yn]
open Go Go.CT CtF CtR
def tgt (x:In):Int:=if x.op=8 then x.a else if x.op=9∨x.op=10 then x.b else -1
def aim (x:In) (t:Int):In:=if x.op=8 then ⟨x.op,t,x.b,x.c,x.d⟩ else ⟨x.op,x.a,t,x.c,x.d⟩
def isBr (x:In):Bool:=decide (x.op=9) || decide (x.op=10)
theorem aim_op (x:In) (t:Int):(aim x t).op=x.op:=by unfold aim;split<;>rfl
theorem tgt_aim {x:In} {t:Int} (h:x.op=8∨x.op=9∨x.op=10):tgt (aim x t)=t:=by
  unfold tgt aim
  rcases h with h | h | h<;>simp [h]
theorem tgt_no {x:In} (h8:x.op ≠ 8) (h9:x.op ≠ 9) (h10:x.op ≠ 10):tgt x = -1:=by simp [tgt,h8,h9,h10]
theorem isBr_iff {x:In}:isBr x=true ↔ x.op=9∨x.op=10:=by simp [isBr]
def tlE (x:In) (regs:List Int):List Ev :=
  if x.op=4 then [⟨2,x.b * 4+nth regs x.c % 4⟩] else if x.op=5 then [⟨3,x.a * 4+nth regs x.b % 4⟩] else if x.op=11 then [⟨4,nth regs x.a⟩] else []
theorem stpEv (x:In) (s:Mc):(stepM x s).2=⟨5,s.pc⟩ :: tlE x s.regs:=by
  by_cases h1:x.op=1
  · simp [stepM,tlE,h1]
  by_cases h2:x.op=2
  · simp [stepM,tlE,h2]
  by_cases h3:x.op=3
  · simp [stepM,tlE,h3]
  by_cases h4:x.op=4
  · simp [stepM,tlE,h4]
  by_cases h5:x.op=5
  · simp [stepM,tlE,h5]
  by_cases h6:x.op=6
  · simp [stepM,tlE,h6]
  by_cases h7:x.op=7
  · simp [stepM,tlE,h7]
  by_cases h8:x.op=8
  · simp [stepM,tlE,h8]
  by_cases h9:x.op=9
  · simp [stepM,tlE,h9]
  by_cases h10:x.op=10
  · simp [stepM,tlE,h10]
  by_cases h11:x.op=11
  · simp [stepM,tlE,h11]
  by_cases h13:x.op=13
  · simp [stepM,tlE,h13]
  simp [stepM,tlE,h1,h2,h3,h4,h5,h6,h7,h8,h9,h10,h11,h13]
theorem tlE_len (x:In) (r r':List Int):(tlE x r).length=(tlE x r').length:=by
  unfold tlE
  split
  · rfl
  · split
    · rfl
    · split<;>rfl
def wrR (x:In) (s:Mc):List Int × Mm:=((stepM x s).1.regs,(stepM x s).1.mem)
def taken (x:In) (regs:List Int):Bool:=decide (x.op=8) || (decide (x.op=9) && decide (nth regs x.a=0)) || (decide (x.op=10) && decide ((nth regs x.a+255) % 256 ≠ 0))
theorem stpPc (x:In) (s:Mc) (h13:x.op ≠ 13):(stepM x s).1.pc=if taken x s.regs then (tgt x).toNat else s.pc+1:=by
  by_cases h1:x.op=1
  · simp [stepM,taken,h1]
  by_cases h2:x.op=2
  · simp [stepM,taken,h2]
  by_cases h3:x.op=3
  · simp [stepM,taken,h3]
  by_cases h4:x.op=4
  · simp [stepM,taken,h4]
  by_cases h5:x.op=5
  · simp [stepM,taken,h5]
  by_cases h6:x.op=6
  · simp [stepM,taken,h6]
  by_cases h7:x.op=7
  · simp [stepM,taken,h7]
  by_cases h8:x.op=8
  · simp [stepM,taken,tgt,h8]
  by_cases h9:x.op=9
  · simp [stepM,taken,tgt,h9]
  by_cases h10:x.op=10
  · by_cases q:(nth s.regs x.a+255) % 256=0<;>simp [stepM,taken,tgt,h10,q]
  by_cases h11:x.op=11
  · simp [stepM,taken,h11]
  simp [stepM,taken,h1,h2,h3,h4,h5,h6,h7,h8,h9,h10,h11,h13]
theorem step_wr (x:In) (pc pc':Nat) (regs:List Int) (mem:Mm):wrR x ⟨pc,regs,mem⟩=wrR x ⟨pc',regs,mem⟩:=by
  by_cases h1:x.op=1
  · simp [wrR,stepM,h1]
  by_cases h2:x.op=2
  · simp [wrR,stepM,h2]
  by_cases h3:x.op=3
  · simp [wrR,stepM,h3]
  by_cases h4:x.op=4
  · simp [wrR,stepM,h4]
  by_cases h5:x.op=5
  · simp [wrR,stepM,h5]
  by_cases h6:x.op=6
  · simp [wrR,stepM,h6]
  by_cases h7:x.op=7
  · simp [wrR,stepM,h7]
  by_cases h8:x.op=8
  · simp [wrR,stepM,h8]
  by_cases h9:x.op=9
  · simp [wrR,stepM,h9]
  by_cases h10:x.op=10
  · simp [wrR,stepM,h10]
  by_cases h11:x.op=11
  · simp [wrR,stepM,h11]
  by_cases h13:x.op=13
  · simp [wrR,stepM,h13]
  simp [wrR,stepM,h1,h2,h3,h4,h5,h6,h7,h8,h9,h10,h11,h13]
theorem aim_ne {x:In} {t:Int} (h8:x.op ≠ 8):aim x t=⟨x.op,x.a,t,x.c,x.d⟩:=by simp [aim,h8]
theorem aim_8 {x:In} {t:Int} (h8:x.op=8):aim x t=⟨x.op,t,x.b,x.c,x.d⟩:=by simp [aim,h8]
theorem aim_wr {x:In} {t:Int} (h:x.op=8∨x.op=9∨x.op=10) (s:Mc):wrR (aim x t) s=wrR x s∧taken (aim x t) s.regs=taken x s.regs∧tlE (aim x t) s.regs=tlE x s.regs:=by
  rcases h with h | h | h
  · rw [aim_8 h];simp [wrR,stepM,taken,tlE,h]
  · rw [aim_ne (by omega)];simp [wrR,stepM,taken,tlE,h]
  · rw [aim_ne (by omega)];simp [wrR,stepM,taken,tlE,h]
theorem step_aim {x y : In} (h13 : x.op ≠ 13) (hy : (y = x ∧ tgt x = -1) ∨ ((x.op = 8 ∨ x.op = 9 ∨ x.op = 10) ∧ ∃ t, y = aim x t)) (pc pos : Nat) (regs : List Int) (mem : Mm) :
    stepM y ⟨pos,regs,mem⟩=(⟨if taken x regs then (tgt y).toNat else pos+1,(stepM x ⟨pc,regs,mem⟩).1.regs,(stepM x ⟨pc,regs,mem⟩).1.mem⟩,⟨5,pos⟩ :: tlE x regs):=by
  have hyo:y.op ≠ 13:=by
    rcases hy with ⟨rfl,_⟩ | ⟨_,t,rfl⟩
    · exact h13
    · rw [aim_op];exact h13
  have hw:wrR y ⟨pos,regs,mem⟩=wrR x ⟨pc,regs,mem⟩∧taken y regs=taken x regs∧tlE y regs=tlE x regs:=by
    rcases hy with ⟨rfl,_⟩ | ⟨h,t,rfl⟩
    · exact ⟨step_wr _ _ _ _ _,rfl,rfl⟩
    · obtain ⟨h1,h2,h3⟩:=aim_wr (t:=t) h ⟨pos,regs,mem⟩
      exact ⟨h1.trans (step_wr _ _ _ _ _),h2,h3⟩
  have e1:=stpEv y ⟨pos,regs,mem⟩
  have e2:=stpPc y ⟨pos,regs,mem⟩ hyo
  obtain ⟨h1,h2,h3⟩:=hw
  simp only at e1 e2
  rw [h2] at e2
  rw [h3] at e1
  generalize hz:stepM y ⟨pos,regs,mem⟩=z at *
  obtain ⟨⟨z1,z2,z3⟩,z4⟩:=z
  have g1:wrR y ⟨pos,regs,mem⟩=(z2,z3):=by simp [wrR,hz]
  rw [g1] at h1
  simp only [wrR,Prod.mk.injEq] at h1
  simp only at e1 e2
  rw [e1,e2,h1.1,h1.2]
theorem runM_head {C:List In} {n:Nat} {s:Mc} {q:Mm × List Ev} (h:runM C n s=some q):∃ r,q.2=⟨5,s.pc⟩ :: r:=by
  cases n with
  | zero=>simp [runM] at h
  | succ n =>
    rw [runM] at h
    split at h
    · simp only [Option.some.injEq] at h
      subst h
      exact ⟨_,stpEv _ _⟩
    · obtain ⟨q',_,rfl⟩:=Option.map_eq_some_iff.1 h
      exact ⟨_,by simp only [stpEv];rfl⟩
theorem atC_get {C:List In} {i:Nat} {x:In} (h:C[i]? = some x):atC C i=x:=by simp [atC,List.getD,h]
theorem atC_lt {C:List In} {i:Nat} (h:i<C.length):C[i]? = some (atC C i):=by simp [atC,List.getD,h]
def WfC (C:List In):Prop:=∀ i,i<C.length→((atC C i).op=8∨(atC C i).op=9∨(atC C i).op=10→0≤tgt (atC C i)∧(tgt (atC C i)).toNat<C.length)∧((atC C i).op ≠ 8→(atC C i).op ≠ 13→i+1<C.length)
theorem wf_of {c:Cd} (h:codeOK c=true):WfC c.list:=by
  simp only [codeOK,Bool.and_eq_true,decide_eq_true_eq,List.all_eq_true] at h
  obtain ⟨⟨⟨⟨_,h1⟩,h2⟩,h3⟩,h4⟩:=h
  intro i hi
  have hx:=h3 _ (List.mem_of_getElem? (atC_lt hi))
  refine ⟨fun ho=>?_,fun h8 h13=>?_⟩
  · simp only [inOK,Bool.and_eq_true,decide_eq_true_eq,fOK] at hx
    rcases ho with ho | ho | ho
    · have hk:kindsOf (atC c.list i).op=[6,0,0,0]:=by simp [kindsOf,ho]
      simp [hk,topOf] at hx
      simp only [tgt,ho,if_true]
      omega
    · have hk:kindsOf (atC c.list i).op=[1,6,0,0]:=by simp [kindsOf,ho]
      simp [hk,topOf] at hx
      simp [tgt,ho]
      omega
    · have hk:kindsOf (atC c.list i).op=[1,6,0,0]:=by simp [kindsOf,ho]
      simp [hk,topOf] at hx
      simp [tgt,ho]
      omega
  · rcases Nat.lt_or_ge (i+1) c.list.length with q | q
    · exact q
    · have:i=c.list.length - 1:=by omega
      simp only [endOK,Bool.or_eq_true,beq_iff_eq] at h4
      rw [← this] at h4
      omega
theorem step_lt {C:List In} (hw:WfC C) {s:Mc} (hs:s.pc<C.length):(stepM (atC C s.pc) s).1.pc<C.length:=by
  by_cases h13:(atC C s.pc).op=13
  · simpa [stepM,h13] using hs
  · rw [stpPc _ _ h13]
    obtain ⟨h1,h2⟩:=hw s.pc hs
    split
    · rename_i ht
      simp only [taken,Bool.or_eq_true,Bool.and_eq_true,decide_eq_true_eq] at ht
      exact (h1 (by omega)).2
    · rename_i ht
      refine h2 (fun h=>?_) h13
      simp [taken,h] at ht
open Go Go.CT CtF CtR
def mkF (C : List In) : Nat → List Bool
  | 0=>List.replicate C.length false
  | k+1=>if isBr (atC C k) then ((mkF C k).set (atC C k).b.toNat true).set (k+1) true else mkF C k
theorem mkF_len (C : List In) : ∀ k, (mkF C k).length = C.length
  | 0=>by simp [mkF]
  | k+1=>by
    rw [mkF];split
    · simp [mkF_len C k]
    · exact mkF_len C k
theorem set_true {l:List Bool} {i j:Nat} (h:l[i]? = some true):(l.set j true)[i]? = some true:=by
  rw [List.getElem?_set]
  split
  · rename_i e
    subst e
    rw [if_pos (List.getElem?_eq_some_iff.1 h).1]
  · exact h
theorem mkF_mono (C : List In) {i : Nat} : ∀ (d k : Nat), (mkF C k)[i]? = some true → (mkF C (k + d))[i]? = some true
  | 0,k,h=>h
  | d+1,k,h=>by
    have h1:=mkF_mono C d k h
    rw [← Nat.add_assoc,mkF]
    split
    · exact set_true (set_true h1)
    · exact h1
def fnR (C:List In):List Bool:=mkF C C.length
def needF (C:List In) (i:Nat):Bool:=(fnR C).getD i false && !decide ((atC C i).op=12)
theorem mk_br {C:List In} {k:Nat} (hk:k<C.length) (hb:isBr (atC C k)=true):((k+1<C.length)→(fnR C)[k+1]? = some true)∧((atC C k).b.toNat<C.length→(fnR C)[(atC C k).b.toNat]? = some true):=by
  have e:fnR C=mkF C (k+1+(C.length - (k+1))):=by unfold fnR;congr 1;omega
  refine ⟨fun h=>?_,fun h=>?_⟩
  · rw [e]
    refine mkF_mono C _ _ ?_
    rw [mkF,if_pos hb,List.getElem?_set_self (by simp [mkF_len];exact h)]
  · rw [e]
    refine mkF_mono C _ _ ?_
    rw [mkF,if_pos hb]
    exact set_true (List.getElem?_set_self (by simp [mkF_len];exact h))
def plF (C : List In) : Nat → Nat
  | 0=>0
  | i+1=>plF C i+1+(needF C i).toNat
def fence:In:=⟨12,0,0,0,0⟩
def aimF (C:List In) (x:In):In:=if 0≤tgt x then aim x (plF C (tgt x).toNat) else x
def fnL (C : List In) : Nat → List In
  | 0=>[]
  | k+1=>fnL C k++((if needF C k then [fence] else [])++[aimF C (atC C k)])
theorem fnL_len (C : List In) : ∀ k, (fnL C k).length = plF C k
  | 0=>rfl
  | k+1=>by
    rw [fnL,List.length_append,fnL_len C k,plF]
    cases needF C k<;>simp [Nat.add_assoc]
theorem fnL_get {C : List In} {i j : Nat} {x : In} : ∀ (d k : Nat), (fnL C k)[i]? = some x → (fnL C (k + d))[i]? = some x
  | 0,k,h=>h
  | d+1,k,h=>by
    rw [← Nat.add_assoc,fnL,List.getElem?_append_left]
    · exact fnL_get (j:=j) d k h
    · exact (List.getElem?_eq_some_iff.1 (fnL_get (j:=j) d k h)).1
def fnC (C:List In):List In:=fnL C C.length
theorem fn_at {C:List In} {k:Nat} (hk:k<C.length):(needF C k=true→(fnC C)[plF C k]? = some fence)∧(fnC C)[plF C k+(needF C k).toNat]? = some (aimF C (atC C k)):=by
  have e:fnC C=fnL C (k+1+(C.length - (k+1))):=by unfold fnC;congr 1;omega
  rw [e]
  refine ⟨fun h=>fnL_get (j:=0) _ _ ?_,fnL_get (j:=0) _ _ ?_⟩
  · rw [fnL,List.getElem?_append_right (by rw [fnL_len];exact Nat.le_refl _),fnL_len,Nat.sub_self,if_pos h];rfl
  · rw [fnL,List.getElem?_append_right (by rw [fnL_len];omega),fnL_len]
    cases needF C k
    · simp
    · rw [show plF C k+true.toNat - plF C k=1 by simp];rfl
def pathM (D : List In) : Nat → Mc → List Ev
  | 0,_=>[]
  | w+1,r=>(stepM (atC D r.pc) r).2++(if (atC D r.pc).op=12∨(atC D r.pc).op=13 then [] else pathM D w (stepM (atC D r.pc) r).1)
def otherM (x:In) (pc:Nat) (s1:Mc):Mc:=⟨if s1.pc=pc+1 then (tgt x).toNat else pc+1,s1.regs,s1.mem⟩
def exF (D:List In) (wrong:List Bool) (cnt:Nat) (x:In) (pc:Nat) (s1:Mc):List Ev:=if isBr x && wrong.getD cnt false then pathM D 4 (otherM x pc s1) else []
def specM (D : List In) (wrong : List Bool) : Nat → Nat → Mc → Option (Mm × List Ev)
  | 0,_,_=>none
  | n + 1, cnt, s => if (atC D s.pc).op = 13 then some ((stepM (atC D s.pc) s).1.mem, (stepM (atC D s.pc) s).2)
    else (specM D wrong n (cnt+(isBr (atC D s.pc)).toNat) (stepM (atC D s.pc) s).1).map fun q=>(q.1,(stepM (atC D s.pc) s).2++exF D wrong cnt (atC D s.pc) s.pc (stepM (atC D s.pc) s).1++q.2)
def trO (o:Option (Mm × List Ev)):Option (List Ev):=o.map (·.2)
theorem trO_map (o:Option (Mm × List Ev)) (X:List Ev):trO (o.map fun q=>(q.1,X++q.2))=(trO o).map fun t=>X++t:=by cases o<;>rfl
theorem specM_fence {D:List In} {wrong:List Bool} {n cnt:Nat} {s:Mc} (h:atC D s.pc=fence):specM D wrong (n+1) cnt s=(specM D wrong n cnt ⟨s.pc+1,s.regs,s.mem⟩).map fun q=>(q.1,[⟨5,s.pc⟩]++q.2):=by
  simp [specM,h,fence,stepM,isBr,exF]
theorem pathM_fence {D:List In} {s:Mc} (h:atC D s.pc=fence):pathM D 4 s=[⟨5,s.pc⟩]:=by
  simp [pathM,h,fence,stepM]
theorem aimF_form {C:List In} (hw:WfC C) {i:Nat} (hi:i<C.length):(aimF C (atC C i)=atC C i∧tgt (atC C i) = -1)∨(((atC C i).op=8∨(atC C i).op=9∨(atC C i).op=10)∧∃ t,aimF C (atC C i)=aim (atC C i) t):=by
  unfold aimF
  by_cases h:(atC C i).op=8∨(atC C i).op=9∨(atC C i).op=10
  · rw [if_pos ((hw i hi).1 h).1]
    exact .inr ⟨h,_,rfl⟩
  · have:=tgt_no (x:=atC C i) (by omega) (by omega) (by omega)
    rw [if_neg (by omega)]
    exact .inl ⟨rfl,this⟩
theorem aimF_op (C:List In) (x:In):(aimF C x).op=x.op:=by unfold aimF;split;exact aim_op _ _;rfl
theorem tgt_aimF {C:List In} {x:In} (h:x.op=8∨x.op=9∨x.op=10) (h0:0≤tgt x):tgt (aimF C x)=(plF C (tgt x).toNat:Nat):=by
  unfold aimF;rw [if_pos h0,tgt_aim h]
theorem fence_two {C:List In} (hw:WfC C) (hnf:∀ i,i<C.length→(atC C i).op ≠ 12) (wrong:List Bool):∀ (N:Nat) (s s':Mc) (m1 m2:Mm) (T:List Ev),s.pc=s'.pc→s.pc<C.length→runM C N s=some (m1,T)→runM C N s'=some (m2,T) →
    ∀ fuel cnt,trO (specM (fnC C) wrong fuel cnt ⟨plF C s.pc,s.regs,s.mem⟩)=trO (specM (fnC C) wrong fuel cnt ⟨plF C s.pc,s'.regs,s'.mem⟩)
  | 0,_,_,_,_,_,_,_,h,_=>by simp [runM] at h
  | N+1,⟨pc,r,m⟩,⟨pc',r',m'⟩,m1,m2,T,hpc,hlt,h1,h2=>fun fuel cnt=>by
    simp only at hpc hlt
    subst hpc
    obtain ⟨hf,hx⟩:=fn_at hlt
    have hxa:=atC_get hx
    have hform:=aimF_form hw hlt
    have hop:=aimF_op C (atC C pc)
    -- behind the fence
    have key:∀ fuel,trO (specM (fnC C) wrong fuel cnt ⟨plF C pc+(needF C pc).toNat,r,m⟩)=trO (specM (fnC C) wrong fuel cnt ⟨plF C pc+(needF C pc).toNat,r',m'⟩):=fun fuel=>by
      cases fuel with
      | zero=>rfl
      | succ n =>
        by_cases h13:(atC C pc).op=13
        · simp only [specM,hxa,hop,h13,if_true,trO,Option.map_some,stpEv]
          congr 2
          unfold tlE
          simp [hop,h13]
        · have g1:=h1
          have g2:=h2
          simp only [runM,h13,if_false] at g1 g2
          obtain ⟨⟨mq,tq⟩,q1,e1⟩:=Option.map_eq_some_iff.1 g1
          obtain ⟨⟨mq',tq'⟩,q2,e2⟩:=Option.map_eq_some_iff.1 g2
          simp only [Prod.mk.injEq] at e1 e2
          obtain ⟨e1,e3⟩:=e1
          obtain ⟨e2,e4⟩:=e2
          have hE:(stepM (atC C pc) ⟨pc,r,m⟩).2.length=(stepM (atC C pc) ⟨pc,r',m'⟩).2.length:=by
            simp only [stpEv,List.length_cons,tlE_len (atC C pc) r r']
          obtain ⟨hEE,hTT⟩:=List.append_inj (e3.trans e4.symm) hE
          simp only [stpEv,List.cons.injEq,true_and] at hEE
          subst hTT
          obtain ⟨u,hu⟩:=runM_head q1
          obtain ⟨u',hu'⟩:=runM_head q2
          simp only at hu hu'
          rw [hu] at hu'
          simp only [List.cons.injEq,Ev.mk.injEq,true_and] at hu'
          have hpe:(stepM (atC C pc) ⟨pc,r,m⟩).1.pc=(stepM (atC C pc) ⟨pc,r',m'⟩).1.pc:=by omega
          have hlt1:=step_lt hw (s:=⟨pc,r,m⟩) hlt
          simp only at hlt1
          have ih:=fence_two hw hnf wrong N _ _ mq mq' tq hpe hlt1 q1 q2 n (cnt+(isBr (aimF C (atC C pc))).toNat)
          have hp1:=stpPc (atC C pc) ⟨pc,r,m⟩ h13
          have hp2:=stpPc (atC C pc) ⟨pc,r',m'⟩ h13
          simp only at hp1 hp2
          -- the steps of the fenced code
          have s1:=step_aim h13 hform pc (plF C pc+(needF C pc).toNat) r m
          have s2:=step_aim h13 hform pc (plF C pc+(needF C pc).toNat) r' m'
          have hpl:plF C pc+(needF C pc).toNat+1=plF C (pc+1):=by rw [plF];omega
          have ht:∀ rr:List Int,taken (atC C pc) rr=true→(tgt (aimF C (atC C pc))).toNat=plF C (tgt (atC C pc)).toNat:=fun rr ht=>by
            simp only [taken,Bool.or_eq_true,Bool.and_eq_true,decide_eq_true_eq] at ht
            have ho:(atC C pc).op=8∨(atC C pc).op=9∨(atC C pc).op=10:=by omega
            rw [tgt_aimF ho ((hw pc hlt).1 ho).1];rfl
          have p1:(if taken (atC C pc) r then (tgt (aimF C (atC C pc))).toNat else plF C pc+(needF C pc).toNat+1)=plF C (stepM (atC C pc) ⟨pc,r,m⟩).1.pc:=by
            rw [hp1]
            by_cases q:taken (atC C pc) r=true
            · rw [if_pos q,if_pos q,ht r q]
            · rw [if_neg q,if_neg q,hpl]
          have p2:(if taken (atC C pc) r' then (tgt (aimF C (atC C pc))).toNat else plF C pc+(needF C pc).toNat+1)=plF C (stepM (atC C pc) ⟨pc,r,m⟩).1.pc:=by
            rw [hpe,hp2]
            by_cases q:taken (atC C pc) r'=true
            · rw [if_pos q,if_pos q,ht r' q]
            · rw [if_neg q,if_neg q,hpl]
          rw [p1] at s1
          rw [p2] at s2
          have hext : exF (fnC C) wrong cnt (aimF C (atC C pc)) (plF C pc + (needF C pc).toNat) ⟨plF C (stepM (atC C pc) ⟨pc, r, m⟩).1.pc, (stepM (atC C pc) ⟨pc, r, m⟩).1.regs, (stepM (atC C pc) ⟨pc, r, m⟩).1.mem⟩ =
              exF (fnC C) wrong cnt (aimF C (atC C pc)) (plF C pc+(needF C pc).toNat) ⟨plF C (stepM (atC C pc) ⟨pc,r,m⟩).1.pc,(stepM (atC C pc) ⟨pc,r',m'⟩).1.regs,(stepM (atC C pc) ⟨pc,r',m'⟩).1.mem⟩:=by
            unfold exF
            by_cases q:(isBr (aimF C (atC C pc)) && wrong.getD cnt false)=true
            · rw [if_pos q,if_pos q]
              have hbr:isBr (atC C pc)=true:=by
                have:=(Bool.and_eq_true _ _ ▸ q).1
                rw [isBr] at this ⊢
                rw [← hop];exact this
              have ho:=isBr_iff.1 hbr
              have ho3:(atC C pc).op=8∨(atC C pc).op=9∨(atC C pc).op=10:=by omega
              obtain ⟨t0,t1⟩:=(hw pc hlt).1 ho3
              have hnx:=(hw pc hlt).2 (by omega) h13
              obtain ⟨b1,b2⟩:=mk_br hlt hbr
              have tb:tgt (atC C pc)=(atC C pc).b:=by rcases ho with ho | ho<;>simp [tgt,ho]
              rw [tb] at t0 t1
              have fat:∀ k,k<C.length→(fnR C)[k]? = some true→atC (fnC C) (plF C k)=fence:=fun k hk hm=>by
                have hn:needF C k=true:=by simp [needF,List.getD,hm,hnf k hk]
                exact atC_get ((fn_at hk).1 hn)
              have f1:=fat (pc+1) hnx (b1 hnx)
              have f2:=fat _ t1 (b2 t1)
              have tg:(tgt (aimF C (atC C pc))).toNat=plF C (atC C pc).b.toNat:=by rw [tgt_aimF ho3 (by rw [tb];exact t0),tb];rfl
              unfold otherM
              simp only [tg,hpl]
              by_cases q2:plF C (stepM (atC C pc) ⟨pc,r,m⟩).1.pc=plF C (pc+1)
              · rw [if_pos q2,pathM_fence (by simp only [f2]),pathM_fence (by simp only [f2])]
              · rw [if_neg q2,pathM_fence (by simp only [f1]),pathM_fence (by simp only [f1])]
            · rw [if_neg q,if_neg q]
          simp only [specM,hxa,hop,h13,if_false,trO_map]
          rw [s1,s2]
          simp only
          rw [hext,ih,hEE]
    cases hn:needF C pc with
    | false =>
      rw [hn] at key
      exact key fuel
    | true =>
      rw [hn] at key
      cases fuel with
      | zero=>rfl
      | succ n =>
        have hfe:=atC_get (hf hn)
        rw [specM_fence (by simpa using hfe),specM_fence (by simpa using hfe),trO_map,trO_map]
        simp only
        rw [show plF C pc+1=plF C pc+true.toNat by rfl,key n]
open Go Go.CT CtF CtR
theorem plF_up (l : List In) (i : Nat) : ∀ d, plF l i + d ≤ plF l (i + d)
  | 0=>Nat.le_refl _
  | d+1=>by have:=plF_up l i d;rw [show i+(d+1)=(i+d)+1 by omega,plF];omega
theorem fnL_mem {C : List In} {x : In} : ∀ {k : Nat}, x ∈ fnL C k → x = fence ∨ ∃ j, j < k ∧ x = aimF C (atC C j)
  | 0,h=>by simp [fnL] at h
  | k+1,h=>by
    rw [fnL,List.mem_append,List.mem_append] at h
    rcases h with h | h | h
    · rcases fnL_mem h with q | ⟨j,hj,q⟩
      · exact .inl q
      · exact .inr ⟨j,by omega,q⟩
    · cases hn:needF C k<;>simp [hn] at h
      exact .inl h
    · exact .inr ⟨k,by omega,by simpa using h⟩
theorem inOK_op {nv na nl:Nat} {x:In} (h:inOK nv na nl x=true):1≤x.op∧x.op≤13:=by
  simp only [inOK,Bool.and_eq_true,decide_eq_true_eq] at h
  omega
theorem inOK_nl {nv na nl nl':Nat} {x:In} (h:inOK nv na nl x=true) (h8:x.op ≠ 8) (h9:x.op ≠ 9) (h10:x.op ≠ 10):inOK nv na nl' x=true:=by
  have ho:=inOK_op h
  obtain ⟨op,a,b,c,d⟩:=x
  simp only at ho h8 h9 h10
  have key:op=1∨op=2∨op=3∨op=4∨op=5∨op=6∨op=7∨op=11∨op=12∨op=13:=by omega
  rcases key with rfl | rfl | rfl | rfl | rfl | rfl | rfl | rfl | rfl | rfl<;>simpa [inOK,kindsOf,fOK,topOf] using h
theorem inOK_aim {nv na nl nl':Nat} {x:In} {t:Nat} (h:inOK nv na nl x=true) (ho:x.op=8∨x.op=9∨x.op=10) (ht:t<nl'):inOK nv na nl' (aim x t)=true:=by
  obtain ⟨op,a,b,c,d⟩:=x
  simp only at ho
  rcases ho with rfl | rfl | rfl
  · simp [inOK,kindsOf,fOK,topOf,aim] at h ⊢;omega
  · simp [inOK,kindsOf,fOK,topOf,aim] at h ⊢;omega
  · simp [inOK,kindsOf,fOK,topOf,aim] at h ⊢;omega
theorem fence_ok {c:Cd} (hc:codeOK c=true) (h400:plF c.list c.list.length≤400):codeOK ⟨c.vars,c.arrays,fnC c.list⟩=true:=by
  have hw:=wf_of hc
  simp only [codeOK,Bool.and_eq_true,decide_eq_true_eq,List.all_eq_true] at hc ⊢
  obtain ⟨⟨⟨⟨h0,h1⟩,h2⟩,h3⟩,h4⟩:=hc
  have hl:(fnC c.list).length=plF c.list c.list.length:=fnL_len _ _
  have hup:=plF_up c.list 0 c.list.length
  simp only [Nat.zero_add] at hup
  have hz:plF c.list 0=0:=rfl
  have hlt:∀ k,k<c.list.length→plF c.list k<plF c.list c.list.length:=fun k hk=>by
    have:=plF_up c.list k (c.list.length - k)
    rw [Nat.add_sub_cancel' (Nat.le_of_lt hk)] at this
    omega
  refine ⟨⟨⟨⟨h0,by omega⟩,by omega⟩,fun x hx=>?_⟩,?_⟩
  · rw [hl]
    rcases fnL_mem hx with rfl | ⟨j,hj,rfl⟩
    · simp [inOK,fence,kindsOf,fOK,topOf]
    · have hx:=h3 _ (List.mem_of_getElem? (atC_lt hj))
      unfold aimF
      by_cases ho:(atC c.list j).op=8∨(atC c.list j).op=9∨(atC c.list j).op=10
      · obtain ⟨t0,t1⟩:=(hw j hj).1 ho
        rw [if_pos t0]
        exact inOK_aim hx ho (hlt _ t1)
      · rw [if_neg (by rw [tgt_no (by omega) (by omega) (by omega)];omega)]
        exact inOK_nl hx (by omega) (by omega) (by omega)
  · obtain ⟨k,hk⟩:∃ k,c.list.length=k+1:=⟨c.list.length - 1,by omega⟩
    have hf:=(fn_at (C:=c.list) (k:=k) (by omega)).2
    have hp:plF c.list (k+1)=plF c.list k+1+(needF c.list k).toNat:=by rw [plF]
    have hi:(fnC c.list).length - 1=plF c.list k+(needF c.list k).toNat:=by rw [hl,hk,hp];omega
    simp only [endOK]
    simp only [endOK] at h4
    rw [hi,atC_get hf,aimF_op]
    rw [hk,Nat.add_sub_cancel] at h4
    exact h4
open Go Go.CT CtF CtR
theorem cS_nf {p : Pg} : ∀ (d dep : Nat) (s : St1) (b : Nat), d + dep ≤ 5 → stmtOK p d s = true → ∀ x ∈ cS d dep b s, x.op ≠ 12
  | 0,_,_,_,_,h,_,_=>by simp [stmtOK] at h
  | d+1,dep,.mk k t ix v c bd el,b,hd,h,x,hx=>by
    obtain ⟨hh,hb,he⟩:=stmtOK_succ h
    have ge:∀ e n,CtR.shape p 5 e=true→n≤3→x ∈ kE 5 e n→x.op ≠ 12:=fun e n hs hn hx=>by
      have:=(kE_ok (nl:=400) 5 e n hs (by omega) x hx).2
      omega
    have gb:∀ l b',(∀ s ∈ l,stmtOK p d s=true)→x ∈ seqS (cS d (dep+1)) (lenS d) b' l→x.op ≠ 12:=fun l b' hl hx=>by
      obtain ⟨s,hs,j,h1,h2,h3⟩:=seqS_mem l b' hx
      exact cS_nf d (dep+1) s j (by omega) (hl s hs) x h3
    rcases head_kind hh with ⟨hk,ht0,ht1,hr⟩ | ⟨rfl,ht0,ht1,hri,hai,hr⟩ | ⟨rfl,hr⟩ | ⟨rfl,hc1,hc3⟩
    · rcases hk with rfl | rfl
      · simp [cS] at hx
        rcases hx with hx | hx
        · exact ge v 0 (right_shape hr).1 (by omega) hx
        · subst hx;simp
      · simp [cS] at hx
        rcases hx with hx | hx | hx
        · exact ge v 0 (right_shape hr).1 (by omega) hx
        · subst hx;simp
        · subst hx;simp
    · simp [cS] at hx
      rcases hx with hx | hx | hx
      · exact ge v 0 (right_shape hr).1 (by omega) hx
      · exact ge ix 1 (right_shape hri).1 (by omega) hx
      · subst hx;simp
    · have hx : x ∈ kE 5 v 0 ++ (⟨9, 0, (b + cnt 5 v + lenL d bd + 2 : Nat), 0, 0⟩ :: (seqS (cS d (dep + 1)) (lenS d) (b + cnt 5 v + 1) bd ++
        (⟨8,(b+cnt 5 v+lenL d bd+lenL d el+2:Nat),0,0,0⟩ :: seqS (cS d (dep+1)) (lenS d) (b+cnt 5 v+lenL d bd+2) el))):=hx
      simp only [List.mem_append,List.mem_cons] at hx
      rcases hx with hx | hx | hx | hx | hx
      · exact ge v 0 (right_shape hr).1 (by omega) hx
      · subst hx;simp
      · exact gb bd _ hb hx
      · subst hx;simp
      · exact gb el _ he hx
    · have hx:x ∈ ⟨1,9+dep,c,0,0⟩ :: (seqS (cS d (dep+1)) (lenS d) (b+1) bd++[⟨10,9+dep,(b+1:Nat),0,0⟩]):=hx
      simp only [List.mem_append,List.mem_cons,List.not_mem_nil,or_false] at hx
      rcases hx with hx | hx | hx
      · subst hx;simp
      · exact gb bd _ hb hx
      · subst hx;simp
theorem compL_nf {p:Pg} (h:progOK p=true):∀ i,i<(compL p).length→(atC (compL p) i).op ≠ 12:=fun i hi=>by
  have hx:=List.mem_of_getElem? (atC_lt hi)
  generalize atC (compL p) i=x at hx
  rw [compL,List.mem_append,List.mem_singleton] at hx
  rcases hx with hx | rfl
  · obtain ⟨s,hs,j,h1,h2,h3⟩:=seqS_mem p.body 0 hx
    exact cS_nf 5 0 s j (by omega) ((body_of h).1 s hs) x h3
  · simp [halt]
theorem comp_reach {p:Pg} {m:Mm} (h:progOK p=true) (hm:memOK p.vars p.arrays m=true):∃ N m',runM (compL p) N ⟨0,List.replicate 14 0,m⟩=some (m',xP p m):=by
  have hat:At (compL p) 0 (cL 5 0 0 p.body):=⟨[],[halt],by simp [compL],rfl⟩
  obtain ⟨r,h1,h2,_⟩:=seq_run (p:=p) (C:=compL p) (d:=5) (dep:=0) (fun s b m=>cS_run 5 0 s b m (by omega)) p.body 0 m (memFits2 h hm) (body_of h).1 hat (List.replicate 14 0) (by simp)
  have h3:=h1.run (by simpa using compL_end h) (stp (xL 5 0 m p.body)+1)
  rw [if_pos (Nat.le_refl _)] at h3
  refine ⟨stp (xL 5 0 m p.body)+1,(foldR (runS 5) m p.body).1,?_⟩
  rw [h3]
  simp [xP]
theorem specM_len {D : List In} {w : List Bool} : ∀ (n cnt : Nat) (s : Mc) (q : Mm × List Ev), (∀ x s, (stepM x s).2.length ≤ 2) → specM D w n cnt s = some q → q.2.length ≤ 10 * n
  | 0,_,_,_,_,h=>by simp [specM] at h
  | n+1,cnt,s,q,hst,h=>by
    have h1:=hst (atC D s.pc) s
    have hp:∀ (k:Nat) (s:Mc),(pathM D k s).length≤2 * k:=fun k=>by
      induction k with
      | zero=>intro s;simp [pathM]
      | succ k ih =>
        intro s
        rw [pathM,List.length_append]
        have h1:=hst (atC D s.pc) s
        split
        · simp;omega
        · have:=ih (stepM (atC D s.pc) s).1
          omega
    rw [specM] at h
    split at h
    · simp only [Option.some.injEq] at h
      subst h
      simp only;omega
    · obtain ⟨q',hq,rfl⟩:=Option.map_eq_some_iff.1 h
      have:=specM_len n _ _ q' hst hq
      have he:(exF D w cnt (atC D s.pc) s.pc (stepM (atC D s.pc) s).1).length≤8:=by
        unfold exF
        split
        · exact hp 4 _
        · simp
      simp only [List.length_append]
      omega
end Go.Proofs.YtbknljofedfpjaaGreat.CtL
namespace Go.Proofs.YtbknljofedfpjaaGreat.CtD
open Go Go.CT CtF CtR
variable [Yn]
open CtL (In Cd tgt aim isBr)
theorem tgtI (x:In):DC Tryz.prog 38 [.agg (inX x)] [] (fun r h=>r=DI .i64 (tgt x)∧h=[]):=by
  have ret:∀ (v:Int) (hp:Hp),v=tgt x→RetOb 0 (fun r h=>r=DI .i64 (tgt x)∧h=[]) (DI .i64 v) hp:=fun v hp e=>by subst e;exact RetOb.plain ⟨rfl,rfl⟩ rfl
  generalize hR:(fun (r:D) (h:List (Option (List C)))=>r=DI .i64 (tgt x)∧h=[])=R at ret ⊢
  clear hR
  obtain ⟨op,a,b,c,d⟩:=x
  unfold inX
  simp only [tgt] at ret
  by_cases h8:op=8
  · subst h8
    refine dcZ Tryz.func38 ?_
    simp only [go_sem]
    iterate 3 ((try (refine drvZ Tryz.func38 ?_;simp only [go_sem]));((with_reducible and_intros)<;>try exact sd))
    exact ret _ _ (by simp)
  · have g8:(op == 8)=false:=by simp [h8]
    by_cases h9:op=9
    · subst h9
      refine dcZ Tryz.func38 ?_
      simp only [go_sem]
      iterate 3 ((try (refine drvZ Tryz.func38 ?_;simp only [go_sem]));((with_reducible and_intros)<;>try exact sd))
      exact ret _ _ (by simp)
    · have g9:(op == 9)=false:=by simp [h9]
      by_cases h10:op=10
      · subst h10
        refine dcZ Tryz.func38 ?_
        simp only [go_sem]
        iterate 3 ((try (refine drvZ Tryz.func38 ?_;simp only [go_sem]));((with_reducible and_intros)<;>try exact sd))
        exact ret _ _ (by simp)
      · have g10:(op == 10)=false:=by simp [h10]
        refine dcZ Tryz.func38 ?_
        simp only [go_sem,g8,g9,g10]
        iterate 3 ((try (refine drvZ Tryz.func38 ?_;simp only [go_sem,g8,g9,g10,h8,h9,h10]));((with_reducible and_intros)<;>try exact sd))
        exact ret _ _ (by simp [h8,h9,h10])
theorem tgtS (x:In):DC Tryz.prog 43 [.agg (inX x)] [] (fun r h=>r=DI .i64 (tgt x)∧h=[]):=by
  have ret:∀ (v:Int) (hp:Hp),v=tgt x→RetOb 0 (fun r h=>r=DI .i64 (tgt x)∧h=[]) (DI .i64 v) hp:=fun v hp e=>by subst e;exact RetOb.plain ⟨rfl,rfl⟩ rfl
  generalize hR:(fun (r:D) (h:List (Option (List C)))=>r=DI .i64 (tgt x)∧h=[])=R at ret ⊢
  clear hR
  obtain ⟨op,a,b,c,d⟩:=x
  unfold inX
  simp only [tgt] at ret
  by_cases h8:op=8
  · subst h8
    refine dcZ Tryz.func43 ?_
    simp only [go_sem]
    iterate 3 ((try (refine drvZ Tryz.func43 ?_;simp only [go_sem]));((with_reducible and_intros)<;>try exact sd))
    exact ret _ _ (by simp)
  · have g8:(op == 8)=false:=by simp [h8]
    by_cases h9:op=9
    · subst h9
      refine dcZ Tryz.func43 ?_
      simp only [go_sem]
      iterate 3 ((try (refine drvZ Tryz.func43 ?_;simp only [go_sem]));((with_reducible and_intros)<;>try exact sd))
      exact ret _ _ (by simp)
    · have g9:(op == 9)=false:=by simp [h9]
      by_cases h10:op=10
      · subst h10
        refine dcZ Tryz.func43 ?_
        simp only [go_sem]
        iterate 3 ((try (refine drvZ Tryz.func43 ?_;simp only [go_sem]));((with_reducible and_intros)<;>try exact sd))
        exact ret _ _ (by simp)
      · have g10:(op == 10)=false:=by simp [h10]
        refine dcZ Tryz.func43 ?_
        simp only [go_sem,g8,g9,g10]
        iterate 3 ((try (refine drvZ Tryz.func43 ?_;simp only [go_sem,g8,g9,g10,h8,h9,h10]));((with_reducible and_intros)<;>try exact sd))
        exact ret _ _ (by simp [h8,h9,h10])
theorem toI (x:In) (t:Int):DC Tryz.prog 39 [.agg (inX x),DI .i64 t] [] (fun r h=>r = .agg (inX (aim x t))∧h=[]):=by
  obtain ⟨op,a,b,c,d⟩:=x
  by_cases h8:op=8
  · subst h8
    rw [CtL.aim_8 rfl]
    unfold inX
    refine dcZ Tryz.func39 ?_
    simp only [go_sem]
    iterate 3 ((try (refine drvZ Tryz.func39 ?_;simp only [go_sem]));((with_reducible and_intros)<;>try exact sd))
    exact RetOb.plain ⟨rfl,rfl⟩ (by simp [kD,kf])
  · have g8:(op == 8)=false:=by simp [h8]
    rw [CtL.aim_ne h8]
    unfold inX
    refine dcZ Tryz.func39 ?_
    simp only [go_sem,g8]
    iterate 3 ((try (refine drvZ Tryz.func39 ?_;simp only [go_sem,g8,h8]));((with_reducible and_intros)<;>try exact sd))
    exact RetOb.plain ⟨rfl,rfl⟩ (by simp [kD,kf])
theorem aimS (x:In) (t:Int) (ho:x.op=8∨x.op=9∨x.op=10):DC Tryz.prog 44 [.agg (inX x),DI .i64 t] [] (fun r h=>r = .agg (inX (aim x t))∧h=[]):=by
  obtain ⟨op,a,b,c,d⟩:=x
  simp only at ho
  rcases ho with rfl | rfl | rfl
  · rw [CtL.aim_8 rfl]
    unfold inX
    refine dcZ Tryz.func44 ?_
    simp only [go_sem]
    iterate 3 ((try (refine drvZ Tryz.func44 ?_;simp only [go_sem]));((with_reducible and_intros)<;>try exact sd))
    exact RetOb.plain ⟨rfl,rfl⟩ (by simp [kD,kf])
  all_goals
    rw [CtL.aim_ne (by simp)]
    unfold inX
    refine dcZ Tryz.func44 ?_
    simp only [go_sem]
    iterate 3 ((try (refine drvZ Tryz.func44 ?_;simp only [go_sem]));((with_reducible and_intros)<;>try exact sd))
    exact RetOb.plain ⟨rfl,rfl⟩ (by simp [kD,kf])
theorem isBrI (x:In):DC Tryz.prog 58 [.agg (inX x)] [] (fun r h=>r=DB (isBr x)∧h=[]):=by
  have ret:∀ (v:Bool) (hp:Hp),v=isBr x→RetOb 0 (fun r h=>r=DB (isBr x)∧h=[]) (DB v) hp:=fun v hp e=>by subst e;exact RetOb.plain (d:=DB _) ⟨rfl,rfl⟩ rfl
  generalize hR:(fun (r:D) (h:List (Option (List C)))=>r=DB (isBr x)∧h=[])=R at ret ⊢
  clear hR
  obtain ⟨op,a,b,c,d⟩:=x
  unfold inX
  simp only [isBr] at ret
  by_cases h9:op=9
  · subst h9
    refine dcZ Tryz.func58 ?_
    simp only [go_sem]
    iterate 3 ((try (refine drvZ Tryz.func58 ?_;simp only [go_sem]));((with_reducible and_intros)<;>try exact sd))
    exact ret _ _ (by simp)
  · have g9:(op == 9)=false:=by simp [h9]
    by_cases h10:op=10
    · subst h10
      refine dcZ Tryz.func58 ?_
      simp only [go_sem]
      iterate 3 ((try (refine drvZ Tryz.func58 ?_;simp only [go_sem]));((with_reducible and_intros)<;>try exact sd))
      exact ret _ _ (by simp)
    · have g10:(op == 10)=false:=by simp [h10]
      refine dcZ Tryz.func58 ?_
      simp only [go_sem,g9,g10]
      iterate 3 ((try (refine drvZ Tryz.func58 ?_;simp only [go_sem,g9,g10,h9,h10]));((with_reducible and_intros)<;>try exact sd))
      exact ret _ _ (by simp [h9,h10])
theorem isBrS (x:In):DC Tryz.prog 99 [.agg (inX x)] [] (fun r h=>r=DB (isBr x)∧h=[]):=by
  have ret:∀ (v:Bool) (hp:Hp),v=isBr x→RetOb 0 (fun r h=>r=DB (isBr x)∧h=[]) (DB v) hp:=fun v hp e=>by subst e;exact RetOb.plain (d:=DB _) ⟨rfl,rfl⟩ rfl
  generalize hR:(fun (r:D) (h:List (Option (List C)))=>r=DB (isBr x)∧h=[])=R at ret ⊢
  clear hR
  obtain ⟨op,a,b,c,d⟩:=x
  unfold inX
  simp only [isBr] at ret
  by_cases h9:op=9
  · subst h9
    refine dcZ Tryz.func99 ?_
    simp only [go_sem]
    iterate 3 ((try (refine drvZ Tryz.func99 ?_;simp only [go_sem]));((with_reducible and_intros)<;>try exact sd))
    exact ret _ _ (by simp)
  · have g9:(op == 9)=false:=by simp [h9]
    by_cases h10:op=10
    · subst h10
      refine dcZ Tryz.func99 ?_
      simp only [go_sem]
      iterate 3 ((try (refine drvZ Tryz.func99 ?_;simp only [go_sem]));((with_reducible and_intros)<;>try exact sd))
      exact ret _ _ (by simp)
    · have g10:(op == 10)=false:=by simp [h10]
      refine dcZ Tryz.func99 ?_
      simp only [go_sem,g9,g10]
      iterate 3 ((try (refine drvZ Tryz.func99 ?_;simp only [go_sem,g9,g10,h9,h10]));((with_reducible and_intros)<;>try exact sd))
      exact ret _ _ (by simp [h9,h10])
open CtL (In Cd tgt aim isBr mkF fnR WfC atC)
theorem set_comm2 {α:Type} (l:List α) (i j:Nat) (v:α):(l.set i v).set j v=(l.set j v).set i v:=by
  by_cases h:i=j
  · rw [h]
  · exact List.set_comm v v h
theorem fencedI (c:Cd) (hl:c.list.length≤mx) (hw:WfC c.list):DC Tryz.prog 36 [.agg (cdC c)] [] (fun r h=>r = .c (.msl 0 1 0 c.list.length)∧h=[some (boolsC (fnR c.list))]):=by
  have hmx:=mx_eq
  generalize hR:(fun (r:D) (h:List (Option (List C)))=>r = .c (.msl 0 1 0 c.list.length)∧h=[some (boolsC (fnR c.list))])=R
  obtain ⟨vs,ar,l⟩:=c
  simp only at hl hw hR
  simp only [cdC,ints]
  have hz:boolsC (List.replicate l.length false)=boolsC (mkF l 0):=rfl
  refine dcZ Tryz.func36 ?_
  simp only [go_sem,List.length_map,boolsC_rep,hz]
  iterate 4 ((try (refine drvZ Tryz.func36 ?_;simp only [go_sem,List.length_map,boolsC_rep,hz]));((with_reducible and_intros)<;>try exact sd))
  refine Go.loopQ (fun i:Nat=>[(2,.c (.v (.slice none 0 0))),(3,.c (.msl 64 1 0 l.length)),(11,.c (.isl 5 (l.map inX))),(12,DI .i64 l.length),(13,DI .i64 i)]) (fun i=>[(64,some (boolsC (mkF l i)))]) 4096 (fun i=>i≤l.length) (fun i=>l.length - i) ?_ 0 (fun j=>if j=64 then some 320 else none) [] _ (Nat.zero_le _) ?_
  · intro i hi again
    rcases Nat.lt_or_ge i l.length with hlt | hge
    · obtain ⟨x,hx⟩:∃ x,l[i]? = some x:=⟨l[i],by simp [hlt]⟩
      have hat:=CtL.atC_get hx
      have hbr:=isBrI x
      have hml:=CtL.mkF_len l i
      obtain ⟨w1,w2⟩:=hw i hlt
      rw [hat] at w1 w2
      have hms:mkF l (i+1)=if isBr x then ((mkF l i).set x.b.toNat true).set (i+1) true else mkF l i:=by rw [mkF,hat]
      obtain ⟨op,xa,xb,xc,xd⟩:=x
      unfold inX at hbr
      generalize mkF l i=M at *
      cases hb:isBr ⟨op,xa,xb,xc,xd⟩ with
      | true =>
        rw [hb] at hbr hms
        have ho:=CtL.isBr_iff.1 hb
        simp only at ho w1 w2
        obtain ⟨t0,t1⟩:=w1 (by omega)
        have hn1:=w2 (by omega) (by omega)
        have tb:tgt ⟨op,xa,xb,xc,xd⟩=xb:=by rcases ho with ho | ho<;>simp [tgt,ho]
        rw [tb] at t0 t1
        obtain ⟨k,rfl⟩:∃ k:Nat,xb=k:=⟨xb.toNat,by omega⟩
        rw [Int.toNat_natCast] at t1
        have hbl:=boolsC_len M
        refine drvL Tryz.func36 ?_
        simp only [go_sem,hx,inX,hlt]
        iterate 4 ((try (refine drvZ Tryz.func36 ?_;simp only [go_sem,hx,inX,hlt]));((with_reducible and_intros)<;>try exact sd);(try first | refine XK.p hbr ok58 ?_ | refine XK.gp hbr ok58 ?_))
        refine again (i+1) some [] _ hlt (by omega) ?_
        have hT:((i:Int)+1).toNat=i+1:=by omega
        rw [hT,hms,if_pos rfl,Int.toNat_natCast,← boolsC_set,← boolsC_set]
        simp only [go_sem,TmOK,DM,DMs,CM,CMs,forall_eq,exists_eq_left,Mq,HpOK,LowOK]
        simp
        try (rw [boolsC_set,boolsC_set];exact CMs.kf (boolsC_kf _))
      | false =>
        rw [hb] at hbr hms
        refine drvL Tryz.func36 ?_
        simp only [go_sem,hx,inX,hlt]
        iterate 4 ((try (refine drvZ Tryz.func36 ?_;simp only [go_sem,hx,inX,hlt]));((with_reducible and_intros)<;>try exact sd);(try first | refine XK.p hbr ok58 ?_ | refine XK.gp hbr ok58 ?_))
        refine again (i+1) some [] _ hlt (by omega) ?_
        rw [hms,if_neg (by simp)]
        simp only [go_sem,TmOK,DM,DMs,CM,CMs,forall_eq,exists_eq_left,Mq,HpOK,LowOK]
        simp
        try exact CMs.kf (boolsC_kf _)
    · have hn:¬ i<l.length:=by omega
      obtain rfl:i=l.length:=by omega
      refine drvL Tryz.func36 ?_
      simp only [go_sem,hn]
      iterate 3 ((try (refine drvZ Tryz.func36 ?_;simp only [go_sem,hn]));((with_reducible and_intros)<;>try exact sd))
      rw [← hR]
      exact boolsKeep (k:=64) (by simp [upd];rfl) (CtL.mkF_len _ _)
  · simp only [go_sem,TmOK,DM,DMs,CM,CMs,forall_eq,exists_eq_left,Mq,HpOK,LowOK]
    simp [upd]
    try exact CMs.kf (boolsC_kf _)
theorem marksS (c:Cd) (hl:c.list.length≤mx) (hw:WfC c.list):DC Tryz.prog 42 [.agg (cdC c)] [] (fun r h=>r = .c (.msl 0 1 0 c.list.length)∧h=[some (boolsC (fnR c.list))]):=by
  have hmx:=mx_eq
  generalize hR:(fun (r:D) (h:List (Option (List C)))=>r = .c (.msl 0 1 0 c.list.length)∧h=[some (boolsC (fnR c.list))])=R
  obtain ⟨vs,ar,l⟩:=c
  simp only at hl hw hR
  simp only [cdC,ints]
  have hz:boolsC (List.replicate l.length false)=boolsC (mkF l 0):=rfl
  refine dcZ Tryz.func42 ?_
  simp only [go_sem,List.length_map,boolsC_rep,hz]
  iterate 4 ((try (refine drvZ Tryz.func42 ?_;simp only [go_sem,List.length_map,boolsC_rep,hz]));((with_reducible and_intros)<;>try exact sd))
  refine Go.loopQ (fun i:Nat=>[(1,.c (.ptr 0 0)),(2,.c (.v (.slice none 0 0))),(3,.c (.msl 64 1 0 l.length)),(4,DI .i64 i)]) (fun i=>[(0,some ([isI vs,isI ar,.isl 5 (l.map inX)])),(64,some (boolsC (mkF l i)))]) 4096 (fun i=>i≤l.length) (fun i=>l.length - i) ?_ 0 (fun j=>if j=64 then some 320 else some j) [] _ (Nat.zero_le _) ?_
  · intro i hi again
    rcases Nat.lt_or_ge i l.length with hlt | hge
    · obtain ⟨x,hx⟩:∃ x,l[i]? = some x:=⟨l[i],by simp [hlt]⟩
      have hat:=CtL.atC_get hx
      have hbr:=isBrS x
      have hml:=CtL.mkF_len l i
      obtain ⟨w1,w2⟩:=hw i hlt
      rw [hat] at w1 w2
      have hms:mkF l (i+1)=if isBr x then ((mkF l i).set x.b.toNat true).set (i+1) true else mkF l i:=by rw [mkF,hat]
      obtain ⟨op,xa,xb,xc,xd⟩:=x
      unfold inX at hbr
      generalize mkF l i=M at *
      cases hb:isBr ⟨op,xa,xb,xc,xd⟩ with
      | true =>
        rw [hb] at hbr hms
        have ho:=CtL.isBr_iff.1 hb
        simp only at ho w1 w2
        obtain ⟨t0,t1⟩:=w1 (by omega)
        have hn1:=w2 (by omega) (by omega)
        have tb:tgt ⟨op,xa,xb,xc,xd⟩=xb:=by rcases ho with ho | ho<;>simp [tgt,ho]
        rw [tb] at t0 t1
        obtain ⟨k,rfl⟩:∃ k:Nat,xb=k:=⟨xb.toNat,by omega⟩
        rw [Int.toNat_natCast] at t1
        have hbl:=boolsC_len M
        refine drvL Tryz.func42 ?_
        simp only [go_sem,hx,inX,hlt]
        iterate 4 ((try (refine drvZ Tryz.func42 ?_;simp only [go_sem,hx,inX,hlt]));((with_reducible and_intros)<;>try exact sd);(try first | refine XK.p hbr ok99 ?_ | refine XK.gp hbr ok99 ?_))
        refine again (i+1) some [] _ hlt (by omega) ?_
        have hT:((i:Int)+1).toNat=i+1:=by omega
        rw [hT,hms,if_pos rfl,Int.toNat_natCast,← boolsC_set,← boolsC_set,set_comm2]
        simp only [go_sem,TmOK,DM,DMs,CM,CMs,forall_eq,exists_eq_left,Mq,HpOK,LowOK]
        simp
        try (rw [boolsC_set,boolsC_set];exact CMs.kf (boolsC_kf _))
      | false =>
        rw [hb] at hbr hms
        refine drvL Tryz.func42 ?_
        simp only [go_sem,hx,inX,hlt]
        iterate 4 ((try (refine drvZ Tryz.func42 ?_;simp only [go_sem,hx,inX,hlt]));((with_reducible and_intros)<;>try exact sd);(try first | refine XK.p hbr ok99 ?_ | refine XK.gp hbr ok99 ?_))
        refine again (i+1) some [] _ hlt (by omega) ?_
        rw [hms,if_neg (by simp)]
        simp only [go_sem,TmOK,DM,DMs,CM,CMs,forall_eq,exists_eq_left,Mq,HpOK,LowOK]
        simp
        try exact CMs.kf (boolsC_kf _)
    · have hn:¬ i<l.length:=by omega
      obtain rfl:i=l.length:=by omega
      refine drvL Tryz.func42 ?_
      simp only [go_sem,hn]
      iterate 3 ((try (refine drvZ Tryz.func42 ?_;simp only [go_sem,hn]));((with_reducible and_intros)<;>try exact sd))
      rw [← hR]
      exact boolsKeep (k:=64) (by simp [upd];rfl) (CtL.mkF_len _ _)
  · simp only [go_sem,TmOK,DM,DMs,CM,CMs,forall_eq,exists_eq_left,Mq,HpOK,LowOK]
    simp [upd]
    try exact CMs.kf (boolsC_kf _)
end Go.Proofs.YtbknljofedfpjaaGreat.CtD
