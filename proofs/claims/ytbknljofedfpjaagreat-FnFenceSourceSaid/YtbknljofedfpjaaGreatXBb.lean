/- Contracts of functions of the program, one behind the other, as plain data: what each call returns and which blocks it leaves. -/
import Derived.Test.YtbknljofedfpjaaGreatXFacts
import Derived.Test.YtbknljofedfpjaaGreatXAi
import Derived.Test.YtbknljofedfpjaaGreatXAk
import Derived.Test.YtbknljofedfpjaaGreatXAm
import Derived.Test.YtbknljofedfpjaaGreatXAp
import Derived.Test.YtbknljofedfpjaaGreatXAq
import Derived.Test.YtbknljofedfpjaaGreatXAr
import Derived.Test.YtbknljofedfpjaaGreatXAs
import Derived.Test.YtbknljofedfpjaaGreatXAu
import Derived.Test.YtbknljofedfpjaaGreatXAw
import Derived.Test.YtbknljofedfpjaaGreatXAx
import Derived.Test.YtbknljofedfpjaaGreatXBa
import Derived.Test.YtbknljofedfpjaaGreatXAj
import Derived.Test.YtbknljofedfpjaaGreatXAo
import Derived.Test.YtbknljofedfpjaaGreatXAv
set_option linter.unusedVariables false
set_option linter.unusedSimpArgs false
set_option linter.unusedSectionVars false
set_option maxHeartbeats 16000000
set_option maxRecDepth 100000
namespace Go.Proofs.YtbknljofedfpjaaGreat.CtD
open Go Go.CT CtF CtR
variable [Yn]
open CtL (In Cd tgt aim isBr mkF fnR WfC atC needF plF fence aimF fnL fnC codeOK)
def fenceP (c:Cd):Cd × Bool:=if codeOK c && decide (plF c.list c.list.length≤400) then (⟨c.vars,c.arrays,fnC c.list⟩,true) else (⟨[],[],[]⟩,false)
def ndL (l:List In) (i:Nat):List Bool:=(List.range i).map (needF l)++(fnR l).drop i
def plL (l:List In) (i:Nat):List Int:=(List.range i).map (fun j=>((plF l j:Nat):Int))++List.replicate (l.length - i) 0
theorem fnR_len (l:List In):(fnR l).length=l.length:=CtL.mkF_len l _
theorem ndL_len {l:List In} {i:Nat} (h:i≤l.length):(ndL l i).length=l.length:=by simp [ndL,fnR_len];omega
theorem plL_len {l:List In} {i:Nat} (h:i≤l.length):(plL l i).length=l.length:=by simp [plL];omega
theorem ndL_at {l:List In} {i:Nat} (h:i<l.length):(ndL l i)[i]? = some ((fnR l).getD i false):=by
 rw [ndL,List.getElem?_append_right (by simp),List.length_map,List.length_range,Nat.sub_self,List.getElem?_drop,Nat.add_zero,List.getD_eq_getElem?_getD,List.getElem?_eq_getElem (by rw [fnR_len];exact h)]
 rfl
theorem snoc_set {α:Type} (a b:List α) (x y:α):(a++x :: b).set a.length y=a++y :: b:=by simp
theorem ndL_set {l:List In} {i:Nat} (h:i<l.length):(ndL l i).set i (needF l i)=ndL l (i+1):=by
 have hd:(fnR l).drop i=(fnR l)[i]'(by rw [fnR_len];exact h) :: (fnR l).drop (i+1):=List.drop_eq_getElem_cons (by rw [fnR_len];exact h)
 have:=snoc_set ((List.range i).map (needF l)) ((fnR l).drop (i+1)) ((fnR l)[i]'(by rw [fnR_len];exact h)) (needF l i)
 rw [List.length_map,List.length_range] at this
 rw [ndL,hd,this,ndL,List.range_succ,List.map_append]
 simp
theorem plL_set {l:List In} {i:Nat} (h:i<l.length):(plL l i).set i ((plF l i:Nat):Int)=plL l (i+1):=by
 have hr:List.replicate (l.length - i) (0:Int)=0 :: List.replicate (l.length - (i+1)) 0:=by rw [show l.length - i=(l.length - (i+1))+1 by omega];rfl
 have:=snoc_set ((List.range i).map (fun j=>((plF l j:Nat):Int))) (List.replicate (l.length - (i+1)) 0) (0:Int) ((plF l i:Nat):Int)
 rw [List.length_map,List.length_range] at this
 rw [plL,hr,this,plL,List.range_succ,List.map_append]
 simp
theorem ndL_end (l:List In) {i:Nat} (h:i<l.length):(ndL l l.length)[i]? = some (needF l i):=by
 rw [ndL,List.getElem?_append_left (by simpa using h)]
 simp [h]
theorem plL_end (l:List In) {i:Nat} (h:i<l.length):(plL l l.length)[i]? = some ((plF l i:Nat):Int):=by
 rw [plL,List.getElem?_append_left (by simpa using h)]
 simp [h]
theorem plF_le (l : List In) : ∀ i, plF l i ≤ 2 * i
 | 0=>by simp [plF]
 | i+1=>by have:=plF_le l i;rw [plF];cases needF l i<;>simp<;>omega
theorem plF_mono (l : List In) (i : Nat) : ∀ d, plF l i + d ≤ plF l (i + d)
 | 0=>Nat.le_refl _
 | d+1=>by have:=plF_mono l i d;rw [show i+(d+1)=(i+d)+1 by omega,plF];omega
theorem bC_at {L:List Bool} {i:Nat} {b:Bool} (h:L[i]? = some b):(boolsC L)[i]? = some (.v (.bool b)):=by rw [boolsC,List.getElem?_map,h];rfl
theorem CMs_bC {hT hS:Hp} {r:Nat→Option Nat} {fz:List Nat} (L:List Bool):CMs hT r hS fz (boolsC L) (boolsC L)=True:=eq_true (CMs.kf (boolsC_kf _))
theorem inCc (x:In) (l:List In):inC (x :: l)=inX x++inC l:=by simp [inC]
theorem inCn:inC []=[]:=rfl
theorem withI (c:Cd) (L:List In) (h1:c.vars.length≤1000000) (h2:c.arrays.length≤1000000) (h3:L.length≤mx):DC Tryz.prog 40 [.agg (cdC c),.c (.isl 5 (L.map inX))] [] (fun r h=>r = .agg (cdC ⟨c.vars,c.arrays,L⟩)∧h=[]):=by
 have hmx:=mx_eq
 have k1:=cloneI c.vars h1
 have k2:=cloneI c.arrays h2
 obtain ⟨vs,ar,l⟩:=c
 simp only at k1 k2
 simp only [cdC,ints] at k1 k2 ⊢
 generalize hR:(fun (r:D) (h:List (Option (List C)))=>r = .agg _∧h=[])=R
 refine dcZ Tryz.func40 ?_
 simp only [go_sem]
 iterate 2 ((try (refine drvZ Tryz.func40 ?_;simp only [go_sem]));((with_reducible and_intros)<;>try exact sd))
 refine XK.callG [] k1 ok33 (fun i' x h=>by simp at h) (hbT ()) (fun d h' ⟨_,e⟩=>by subst e;simp) ?_ (fun _=>⟨by kernel_rfl,_,_,⟨rfl,rfl⟩,by simp⟩)
 rintro _ _ ⟨rfl,rfl⟩ _
 iterate 2 ((try (refine drvZ Tryz.func40 ?_;simp only [go_sem,renCs_I]));((with_reducible and_intros)<;>try exact sd))
 refine XK.callG [] k2 ok33 (fun i' x h=>by simp at h) (hbT ()) (fun d h' ⟨_,e⟩=>by subst e;simp) ?_ (fun _=>⟨by kernel_rfl,_,_,⟨rfl,rfl⟩,by simp⟩)
 rintro _ _ ⟨rfl,rfl⟩ _
 iterate 3 ((try (refine drvZ Tryz.func40 ?_;simp only [go_sem,renCs_I]));((with_reducible and_intros)<;>try exact sd))
 have hgv:=flat_I vs
 have hga:=flat_I ar
 refine RetOb.ofQ (fun _=>none) [256,448] (.agg [isI vs,isI ar,.isl 5 (L.map inX)]) [] ?_ (by rw [← hR];exact ⟨rfl,rfl⟩) (by simp)
 simp [enumL,hOf,DM,CM,CMs,HpOK,LowOK,upd,hgv,hga,kf,isI]
theorem RetOb.noCode {R:D→List (Option (List C))→Prop} {hp:Hp} (hR:R (.tup [.agg (cdC ⟨[],[],[]⟩),DB false]) []):RetOb 0 R (.tup [.agg [.v (.slice none 0 0),.v (.slice none 0 0),.v (.slice none 0 0)],DB false]) hp:=by
 refine RetOb.ofQ (fun _=>none) [] _ [] ⟨?_,trivial,trivial,by simp [enumL]⟩ hR (Nat.zero_le _)
 simp [DM,DMs,CM,CMs,cdC,ints,isI]
theorem RetOb.codeB {R:D→List (Option (List C))→Prop} {hp:Hp} {vs ar:List Int} {L:List In} {b:Bool} (hR:R (.tup [.agg [isI vs,isI ar,.isl 5 (L.map inX)],DB b]) []):RetOb 0 R (.tup [.agg [isI vs,isI ar,.isl 5 (L.map inX)],DB b]) hp:=by
 refine RetOb.ofQ (fun _=>none) [] _ [] ⟨?_,trivial,trivial,by simp [enumL]⟩ hR (Nat.zero_le _)
 simp [DM,DMs,CM,CMs,isI]
theorem fenceI (c:Cd) (h1:c.vars.length≤1000000) (h2:c.arrays.length≤1000000) (h3:c.list.length≤1000000):DC Tryz.prog 9 [.agg (cdC c)] [] (fun r h=>r = .tup [.agg (cdC (fenceP c).1),DB (fenceP c).2]∧h=[]):=by
 have hmx:=mx_eq
 cases hc:codeOK c with
 | false =>
  have hv:=codeValidG0 c (by omega) (by omega) (by omega) hc
  have hf:fenceP c=(⟨[],[],[]⟩,false):=by simp [fenceP,hc]
  rw [hf]
  obtain ⟨vs,ar,l⟩:=c
  simp only [cdC,ints] at hv ⊢
  generalize hR:(fun (r:D) (h:List (Option (List C)))=>r = .tup _∧h=[])=R
  refine dcZ Tryz.func9 ?_
  simp only [go_sem]
  iterate 4 ((try (refine drvZ Tryz.func9 ?_;simp only [go_sem]));((with_reducible and_intros)<;>try exact sd);(try first | refine XK.p hv ok35 ?_ | refine XK.gp hv ok35 ?_))
  exact RetOb.noCode (by rw [← hR];exact ⟨rfl,rfl⟩)
 | true =>
  have hcl:=code_len hc
  have hw:=CtL.wf_of hc
  have hv:=codeValidT c (by omega) (by omega) (by omega) hc
  have hfn:=fencedI c (by omega) hw
  have hwt:=fun L h3=>withI c L h1 h2 h3
  have hpl:=plF_le c.list c.list.length
  have hf:fenceP c=if plF c.list c.list.length≤400 then (⟨c.vars,c.arrays,fnC c.list⟩,true) else (⟨[],[],[]⟩,false):=by
   unfold fenceP;rw [hc];by_cases q:plF c.list c.list.length≤400<;>simp [q]
  rw [hf]
  clear hf
  obtain ⟨vs,ar,l⟩:=c
  simp only at hcl hw hpl hfn hwt
  simp only [cdC,ints] at hv hfn hwt ⊢
  generalize hR:(fun (r:D) (h:List (Option (List C)))=>r = .tup _∧h=[])=R
  refine dcZ Tryz.func9 ?_
  simp only [go_sem]
  iterate 4 ((try (refine drvZ Tryz.func9 ?_;simp only [go_sem]));((with_reducible and_intros)<;>try exact sd);(try first | refine XK.p hv ok35 ?_ | refine XK.gp hv ok35 ?_))
  refine XK.callG [] hfn ok36 (fun i' x h=>by simp at h) (hbT ()) (fun d h' ⟨_,e⟩=>by subst e;simp) ?_
  rintro _ _ ⟨rfl,rfl⟩ _
  iterate 3 ((try (refine drvZ Tryz.func9 ?_;simp only [go_sem,boolsC_ren,List.length_map]));((with_reducible and_intros)<;>try exact sd))
  have hnd0:fnR l=ndL l 0:=by simp [ndL]
  have hpl0:(List.replicate l.length [C.v (.int .i64 0)]).flatten=(plL l 0).map I64:=by simp [plL]
  rw [hnd0,hpl0]
  have hmp:∀ i,i≤l.length→plF l i≤2 * i:=fun i _=>plF_le l i
  refine Go.loopQ (fun i : Nat => [(1, .c (.ptr 0 0)), (2, .c (.ptr 64 0)), (4, .c (.msl 448 1 0 l.length)), (5, .c (.msl 768 1 0 l.length)), (6, DI .i64 (plF l i : Nat)), (24, .c (.isl 5 (l.map inX))), (25, DI .i64 l.length), (26, DI .i64 i)])
   (fun i=>[(0,some [isI vs,isI ar,.isl 5 (l.map inX)]),(64,some [.v (.slice none 0 0),.v (.slice none 0 0),.v (.slice none 0 0)]),(448,some (boolsC (ndL l i))),(768,some ((plL l i).map I64))]) 4096 (fun i=>i≤l.length) (fun i=>l.length - i) ?_ 0 some [] _ (Nat.zero_le _) ?_
  ·intro i hi again
   rcases Nat.lt_or_ge i l.length with hlt | hge
   ·obtain ⟨x,hx⟩:∃ x,l[i]? = some x:=⟨l[i],by simp [hlt]⟩
    have hat:=CtL.atC_get hx
    have a1:=bC_at (ndL_at hlt)
    have a2:=ndL_len hi
    have a3:=plL_len hi
    have b1:=ndL_set hlt
    have b2:=plL_set hlt
    have b3:=bC_at (L:=ndL l (i+1)) (i:=i) (b:=needF l i) (by rw [← b1,List.getElem?_set_self (by omega)])
    have c1:=hmp i hi
    have c2:plF l (i+1)=plF l i+1+(needF l i).toNat:=by rw [plF]
    have htr:=CtR.truth (needF l i)
    have hnf:needF l i=((fnR l).getD i false && !decide (x.op=12)):=by rw [needF,hat]
    have hbl:=boolsC_len (ndL l i)
    rw [a2] at hbl
    generalize ndL l i=N at *
    generalize hN':ndL l (i+1)=N' at *
    generalize plL l i=Q at *
    generalize hQ':plL l (i+1)=Q' at *
    generalize hq:needF l i=q at *
    generalize (fnR l).getD i false=m at *
    have hbl':=boolsC_len N'
    have b4:(boolsC N).set i (.v (.bool q))=boolsC N':=by rw [boolsC_set,b1]
    have b5:(Q.map I64).set i (I64 (plF l i:Nat))=Q'.map I64:=by rw [← b2,List.map_set]
    rw [← b1,List.length_set,a2] at hbl'
    generalize plF l i=v at *
    obtain ⟨op,xa,xb,xc,xd⟩:=x
    simp only at hnf
    have fin:∀ S',Mq 0 some [] [(1,.c (.ptr 0 0)),(2,.c (.ptr 64 0)),(4,.c (.msl 448 1 0 l.length)),(5,.c (.msl 768 1 0 l.length)),(6,DI .i64 ((v+1+q.toNat:Nat):Int)),(24,.c (.isl 5 (l.map inX))),(25,DI .i64 l.length),(26,DI .i64 ((i+1:Nat):Int))] [(0,some [isI vs,isI ar,.isl 5 (l.map inX)]),(64,some [.v (.slice none 0 0),.v (.slice none 0 0),.v (.slice none 0 0)]),(448,some (boolsC N')),(768,some (Q'.map I64))] S'→_:=fun S' hS=>again (i+1) some [] S' hlt (by omega) (by rw [hN',hQ',c2];exact hS)
    cases m with
    | true =>
     by_cases h12:op=12
     ·subst h12
      obtain rfl:q=false:=by simpa using hnf
      refine drvL Tryz.func9 ?_
      simp only [go_sem,hx,inX,hlt,a1,a2,a3]
      iterate 9 ((try (refine drvZ Tryz.func9 ?_;simp only [go_sem,hx,inX,hlt,hbl,hbl',a1,a2,a3,b3,b4,b5,List.length_map,bne_self_eq_false]));((with_reducible and_intros)<;>try exact sd);(try first | refine XK.p htr ok37 ?_ | refine XK.gp htr ok37 ?_))
      refine fin _ ?_
      simp only [go_sem,TmOK,DM,DMs,CM,CMs,forall_eq,exists_eq_left,Mq,HpOK,LowOK]
      simp [CMs_I]
      first | exact CMs.kf (boolsC_kf _) | exact ⟨by omega,CMs.kf (boolsC_kf _)⟩
     ·have g12:(op == 12)=false:=by simp [h12]
      have n12:(op != 12)=true:=by simp [h12]
      obtain rfl:q=true:=by simpa [h12] using hnf
      refine drvL Tryz.func9 ?_
      simp only [go_sem,hx,inX,hlt,a1,a2,a3,g12,n12,h12]
      iterate 9 ((try (refine drvZ Tryz.func9 ?_;simp only [go_sem,hx,inX,hlt,hbl,hbl',a1,a2,a3,b3,b4,b5,List.length_map,bne_self_eq_false,g12,n12,h12]));((with_reducible and_intros)<;>try exact sd);(try first | refine XK.p htr ok37 ?_ | refine XK.gp htr ok37 ?_))
      refine fin _ ?_
      simp only [go_sem,TmOK,DM,DMs,CM,CMs,forall_eq,exists_eq_left,Mq,HpOK,LowOK]
      simp [CMs_I]
      first | exact CMs.kf (boolsC_kf _) | exact ⟨by omega,CMs.kf (boolsC_kf _)⟩
    | false =>
     obtain rfl:q=false:=by simpa using hnf
     refine drvL Tryz.func9 ?_
     simp only [go_sem,hx,inX,hlt,a1,a2,a3]
     iterate 9 ((try (refine drvZ Tryz.func9 ?_;simp only [go_sem,hx,inX,hlt,hbl,hbl',a1,a2,a3,b3,b4,b5,List.length_map,bne_self_eq_false]));((with_reducible and_intros)<;>try exact sd);(try first | refine XK.p htr ok37 ?_ | refine XK.gp htr ok37 ?_))
     refine fin _ ?_
     simp only [go_sem,TmOK,DM,DMs,CM,CMs,forall_eq,exists_eq_left,Mq,HpOK,LowOK]
     simp [CMs_I]
     first | exact CMs.kf (boolsC_kf _) | exact ⟨by omega,CMs.kf (boolsC_kf _)⟩
   ·have hn:¬ i<l.length:=by omega
    obtain rfl:i=l.length:=by omega
    refine drvL Tryz.func9 ?_
    simp only [go_sem,hn]
    by_cases q400:plF l l.length≤400
    ·have h400:((plF l l.length:Nat):Int)≤400:=by omega
     have h401:¬ (400<((plF l l.length:Nat):Int)):=by omega
     rw [if_pos q400] at hR
     simp only at hR
     iterate 4 ((try (refine drvZ Tryz.func9 ?_;simp only [go_sem,hn,h400,h401,List.length_map]));((with_reducible and_intros)<;>try exact sd))
     have d0:∀ i,i≤l.length→plF l i≤400:=fun i hi=>by
      have:=plF_mono l i (l.length - i)
      rw [Nat.add_sub_cancel' hi] at this
      omega
     refine Go.loopQ (fun i : Nat => [(1, .c (.ptr 0 0)), (2, .c (.ptr 64 0)), (4, .c (.msl 448 1 0 l.length)), (5, .c (.msl 768 1 0 l.length)), (9, .c (.msl 1000 5 0 (plF l i))), (60, .c (.isl 5 (l.map inX))), (61, DI .i64 l.length), (62, DI .i64 i)])
      (fun i=>[(0,some [isI vs,isI ar,.isl 5 (l.map inX)]),(64,some [.v (.slice none 0 0),.v (.slice none 0 0),.v (.slice none 0 0)]),(448,some (boolsC (ndL l l.length))),(768,some ((plL l l.length).map I64)),(1000,some (inC (fnL l i)))]) 4096 (fun i=>i≤l.length) (fun i=>l.length - i) ?_ 0 (fun j=>if j=1000 then none else some j) [] _ (Nat.zero_le _) ?_
     ·intro i hi again
      rcases Nat.lt_or_ge i l.length with hlt | hge
      ·obtain ⟨x,hx⟩:∃ x,l[i]? = some x:=⟨l[i],by simp [hlt]⟩
       have hat:=CtL.atC_get hx
       have a1:=bC_at (ndL_end l hlt)
       have a2:=ndL_len (l:=l) (Nat.le_refl _)
       have a3:=plL_len (l:=l) (Nat.le_refl _)
       have hbl:=boolsC_len (ndL l l.length)
       rw [a2] at hbl
       have e1:=d0 i hi
       have e2:=CtL.fnL_len l i
       have e3:=inC_len (fnL l i)
       rw [e2] at e3
       have e4:fnL l (i+1)=fnL l i++((if needF l i then [fence] else [])++[aimF l x]):=by rw [fnL,hat]
       have e5:plF l (i+1)=plF l i+1+(needF l i).toNat:=by rw [plF]
       have htg:=tgtI x
       have haf:aimF l x=if 0≤tgt x then aim x (plF l (tgt x).toNat) else x:=rfl
       have hto:=fun t=>toI x t
       have hpl:=fun (h:0≤tgt x)=>(hw i hlt).1
       rw [hat] at hpl
       have e6:∀ z1 z2 z3 z4 z5:C,(inC (fnL l i)++[z1,z2,z3,z4,z5]).length=(plF l i+1) * 5:=fun z1 z2 z3 z4 z5=>by rw [List.length_append,e3];simp;omega
       obtain ⟨op,xa,xb,xc,xd⟩:=x
       unfold inX at htg hto
       have tgo:tgt ⟨op,xa,xb,xc,xd⟩ ≠ -1→op=8∨op=9∨op=10:=fun h=>by
        by_cases h8:op=8
        ·exact .inl h8
        ·by_cases h9:op=9
         ·exact .inr (.inl h9)
         ·by_cases h10:op=10
          ·exact .inr (.inr h10)
          ·exact absurd (CtL.tgt_no (x:=⟨op,xa,xb,xc,xd⟩) h8 h9 h10) h
       simp only at hpl
       generalize needF l i=q at *
       generalize tgt ⟨op,xa,xb,xc,xd⟩=t at *
       by_cases ht:0≤t
       ·obtain ⟨k,rfl⟩:∃ k:Nat,t=k:=⟨t.toNat,by omega⟩
        rw [if_pos ht,Int.toNat_natCast] at haf
        have hk:k<l.length:=by
         have ho:op=8∨op=9∨op=10:=by
          have:=tgo (by omega)
          exact this
         have:=(hpl ht ho).2
         rwa [Int.toNat_natCast] at this
        have hpk:((plL l l.length).map I64)[k]? = some (I64 (plF l k:Nat)):=by rw [List.getElem?_map,plL_end l hk];rfl
        have hto:=hto (plF l k:Nat)
        obtain ⟨y,hy⟩:∃ y,aim ⟨op,xa,xb,xc,xd⟩ (plF l k:Nat)=y:=⟨_,rfl⟩
        rw [hy] at hto haf
        obtain ⟨yo,ya,yb,yc,yd⟩:=y
        rw [haf] at e4
        cases q with
        | true =>
         refine drvL Tryz.func9 ?_
         simp only [go_sem,hx,inX,hlt,a1]
         iterate 9 ((try (refine drvZ Tryz.func9 ?_;simp only [go_sem,hx,inX,hlt,hbl,a1,a2,a3,e3,e6,List.length_map,ht,hpk,hk,plL_end l hk]));((with_reducible and_intros)<;>try exact sd);(try first | refine XK.p htg ok38 ?_ | refine XK.gp htg ok38 ?_ | refine XK.p hto ok39 ?_ | refine XK.gp hto ok39 ?_))
         refine again (i+1) (fun j=>if j=1000 then some 6080 else some j) [] _ hlt (by omega) ?_
         rw [e4,e5]
         simp only [go_sem,TmOK,DM,DMs,CM,CMs,forall_eq,exists_eq_left,Mq,HpOK,LowOK]
         simp [CMs_I,CMs_bC,inC_app,inCc,inCn,inX,fence]
         first | done | exact CMs.kf (kf_app (inC_kf _) (by simp [kf])) | exact ⟨by omega,CMs.kf (kf_app (inC_kf _) (by simp [kf]))⟩ | exact ⟨by omega,by omega,CMs.kf (kf_app (inC_kf _) (by simp [kf]))⟩
        | false =>
         refine drvL Tryz.func9 ?_
         simp only [go_sem,hx,inX,hlt,a1]
         iterate 9 ((try (refine drvZ Tryz.func9 ?_;simp only [go_sem,hx,inX,hlt,hbl,a1,a2,a3,e3,e6,List.length_map,ht,hpk,hk,plL_end l hk]));((with_reducible and_intros)<;>try exact sd);(try first | refine XK.p htg ok38 ?_ | refine XK.gp htg ok38 ?_ | refine XK.p hto ok39 ?_ | refine XK.gp hto ok39 ?_))
         refine again (i+1) (fun j=>if j=1000 then some 5760 else some j) [] _ hlt (by omega) ?_
         rw [e4,e5]
         simp only [go_sem,TmOK,DM,DMs,CM,CMs,forall_eq,exists_eq_left,Mq,HpOK,LowOK]
         simp [CMs_I,CMs_bC,inC_app,inCc,inCn,inX,fence]
         first | done | exact CMs.kf (kf_app (inC_kf _) (by simp [kf])) | exact ⟨by omega,CMs.kf (kf_app (inC_kf _) (by simp [kf]))⟩ | exact ⟨by omega,by omega,CMs.kf (kf_app (inC_kf _) (by simp [kf]))⟩
       ·rw [if_neg ht] at haf
        rw [haf] at e4
        cases q with
        | true =>
         refine drvL Tryz.func9 ?_
         simp only [go_sem,hx,inX,hlt,a1]
         iterate 9 ((try (refine drvZ Tryz.func9 ?_;simp only [go_sem,hx,inX,hlt,hbl,a1,a2,a3,e3,e6,List.length_map,ht]));((with_reducible and_intros)<;>try exact sd);(try first | refine XK.p htg ok38 ?_ | refine XK.gp htg ok38 ?_ | refine XK.p hto ok39 ?_ | refine XK.gp hto ok39 ?_))
         refine again (i+1) (fun j=>if j=1000 then some 5632 else some j) [] _ hlt (by omega) ?_
         rw [e4,e5]
         simp only [go_sem,TmOK,DM,DMs,CM,CMs,forall_eq,exists_eq_left,Mq,HpOK,LowOK]
         simp [CMs_I,CMs_bC,inC_app,inCc,inCn,inX,fence]
         first | done | exact CMs.kf (kf_app (inC_kf _) (by simp [kf])) | exact ⟨by omega,CMs.kf (kf_app (inC_kf _) (by simp [kf]))⟩ | exact ⟨by omega,by omega,CMs.kf (kf_app (inC_kf _) (by simp [kf]))⟩
        | false =>
         refine drvL Tryz.func9 ?_
         simp only [go_sem,hx,inX,hlt,a1]
         iterate 9 ((try (refine drvZ Tryz.func9 ?_;simp only [go_sem,hx,inX,hlt,hbl,a1,a2,a3,e3,e6,List.length_map,ht]));((with_reducible and_intros)<;>try exact sd);(try first | refine XK.p htg ok38 ?_ | refine XK.gp htg ok38 ?_ | refine XK.p hto ok39 ?_ | refine XK.gp hto ok39 ?_))
         refine again (i+1) (fun j=>if j=1000 then some 5312 else some j) [] _ hlt (by omega) ?_
         rw [e4,e5]
         simp only [go_sem,TmOK,DM,DMs,CM,CMs,forall_eq,exists_eq_left,Mq,HpOK,LowOK]
         simp [CMs_I,CMs_bC,inC_app,inCc,inCn,inX,fence]
         first | done | exact CMs.kf (kf_app (inC_kf _) (by simp [kf])) | exact ⟨by omega,CMs.kf (kf_app (inC_kf _) (by simp [kf]))⟩ | exact ⟨by omega,by omega,CMs.kf (kf_app (inC_kf _) (by simp [kf]))⟩
      ·have hn:¬ i<l.length:=by omega
       obtain rfl:i=l.length:=by omega
       have hw2:=hwt (fnL l l.length) (by rw [CtL.fnL_len];omega)
       refine drvL Tryz.func9 ?_
       simp only [go_sem,hn]
       iterate 2 ((try (refine drvZ Tryz.func9 ?_;simp only [go_sem,hn]));((with_reducible and_intros)<;>try exact sd))
       refine XK.freeze 91 1000 5 (plF l l.length) ((fnL l l.length).map inX) ?_ rfl rfl (by rw [List.length_map,CtL.fnL_len]) (in_len5 _) (in_kf5 _)
       iterate 5 ((try (refine drvZ Tryz.func9 ?_;simp only [go_sem,hn]));((with_reducible and_intros)<;>try exact sd);(try first | refine XK.p hw2 ok40 ?_ | refine XK.gp hw2 ok40 ?_))
       exact RetOb.codeB (by rw [← hR];exact ⟨rfl,rfl⟩)
     ·simp only [go_sem,TmOK,DM,DMs,CM,CMs,forall_eq,exists_eq_left,Mq,HpOK,LowOK]
      have z0:plF l 0=0:=rfl
      simp [upd,isI,CMs_I,CMs,CM,kf,z0,fnL,inC]
      try exact CMs.kf (boolsC_kf _)
    ·have h400:¬ ((plF l l.length:Nat):Int)≤400:=by omega
     have h401:400<((plF l l.length:Nat):Int):=by omega
     rw [if_neg q400] at hR
     simp only at hR
     iterate 4 ((try (refine drvZ Tryz.func9 ?_;simp only [go_sem,hn,h400,h401]));((with_reducible and_intros)<;>try exact sd))
     exact RetOb.noCode (by rw [← hR];exact ⟨rfl,rfl⟩)
  ·simp only [go_sem,TmOK,DM,DMs,CM,CMs,forall_eq,exists_eq_left,Mq,HpOK,LowOK]
   have z0:plF l 0=0:=rfl
   simp [upd,isI,CMs_I,CMs,CM,kf,z0]
   try exact CMs.kf (boolsC_kf _)
open CtL (In Cd tgt aim isBr mkF fnR WfC atC needF plF fence aimF fnL fnC codeOK)
def plK (l:List In) (i:Nat):List Int:=(List.range i).map fun j=>((plF l j:Nat):Int)
theorem plK_len (l:List In) (i:Nat):(plK l i).length=i:=by simp [plK]
theorem plK_succ (l:List In) (i:Nat):plK l (i+1)=plK l i++[((plF l i:Nat):Int)]:=by simp [plK,List.range_succ]
theorem plK_at {l:List In} {n i:Nat} (h:i<n):(plK l n)[i]? = some ((plF l i:Nat):Int):=by simp [plK,h]
theorem fnR_at {l:List In} {i:Nat} (h:i<l.length):(fnR l)[i]? = some ((fnR l).getD i false):=by
 rw [List.getD_eq_getElem?_getD,List.getElem?_eq_getElem (by rw [fnR_len];exact h)];rfl
theorem CMs_I1 {hT hS:Hp} {r:Nat→Option Nat} {fz:List Nat} (L:List Int) (z:Int):CMs hT r hS fz (L.map I64++[I64 z]) (L.map I64++[I64 z])=True:=eq_true (CMs.kf (kf_app (fun c hc=>by obtain ⟨_,_,rfl⟩:=List.mem_map.1 hc;rfl) (by simp [kf])))
theorem RetOb.cdO {R : D → List (Option (List C)) → Prop} {hp : Hp} {vs ar : List Int} {L : List In} {b : Bool} {k0 k1 k2 n0 n1 n2 : Nat} (hR : R (.tup [.agg [isI vs, isI ar, .isl 5 (L.map inX)], DB b]) []) (h0 : hp k0 = some (some (vs.map I64))) (h1 : hp k1 = some (some (ar.map I64))) (h2 : hp k2 = some (some (inC L)))
 (e0:n0=vs.length) (e1:n1=ar.length) (e2:n2=L.length):RetOb 0 R (.tup [.agg [.msl k0 1 0 n0,.msl k1 1 0 n1,.msl k2 5 0 n2],DB b]) hp:=by
 subst e0 e1 e2
 refine RetOb.ofQ (fun _=>none) [k0,k1,k2] _ [] ⟨?_,trivial,trivial,by simp [enumL]⟩ hR (Nat.zero_le _)
 have g2:=in_len5 L
 have g3:=in_kf5 L
 simp [-List.mem_map,DM,DMs,CM,CMs,isI,h0,h1,h2,in_flat,flat_I',kf]
 have k1:∀ (v:List Int) (x:List C),x ∈ v.map (fun n=>[I64 n])→x.length=1:=fun v x h=>by obtain ⟨_,_,rfl⟩:=List.mem_map.1 h;rfl
 have k2:∀ (v:List Int) (x:List C),x ∈ v.map (fun n=>[I64 n])→∀ c ∈ x,kf c=true:=fun v x hx c hc=>by obtain ⟨_,_,rfl⟩:=List.mem_map.1 hx;simp only [List.mem_singleton] at hc;subst hc;rfl
 exact ⟨⟨k1 vs,k2 vs⟩,⟨k1 ar,k2 ar⟩,g2,g3⟩
theorem fenceS (c:Cd) (h1:c.vars.length≤1000000) (h2:c.arrays.length≤1000000) (h3:c.list.length≤1000000):DC Tryz.prog 10 [.agg (cdC c)] [] (fun r h=>r = .tup [.agg (cdC (fenceP c).1),DB (fenceP c).2]∧h=[]):=by
 have hmx:=mx_eq
 cases hc:codeOK c with
 | false =>
  have hv:=codeValidS c (by omega) (by omega) (by omega)
  rw [hc] at hv
  have hf:fenceP c=(⟨[],[],[]⟩,false):=by simp [fenceP,hc]
  rw [hf]
  obtain ⟨vs,ar,l⟩:=c
  simp only [cdC,ints] at hv ⊢
  generalize hR:(fun (r:D) (h:List (Option (List C)))=>r = .tup _∧h=[])=R
  refine dcZ Tryz.func10 ?_
  simp only [go_sem]
  iterate 4 ((try (refine drvZ Tryz.func10 ?_;simp only [go_sem]));((with_reducible and_intros)<;>try exact sd);(try first | refine XK.p hv ok41 ?_ | refine XK.gp hv ok41 ?_))
  exact RetOb.noCode (by rw [← hR];exact ⟨rfl,rfl⟩)
 | true =>
  have hcl:=code_len hc
  have hw:=CtL.wf_of hc
  have hv:=codeValidS c (by omega) (by omega) (by omega)
  rw [hc] at hv
  have hfn:=marksS c (by omega) hw
  have hpl:=plF_le c.list c.list.length
  have hf:fenceP c=if plF c.list c.list.length≤400 then (⟨c.vars,c.arrays,fnC c.list⟩,true) else (⟨[],[],[]⟩,false):=by
   unfold fenceP;rw [hc];by_cases q:plF c.list c.list.length≤400<;>simp [q]
  rw [hf]
  clear hf
  obtain ⟨vs,ar,l⟩:=c
  simp only at hcl hw hpl hfn
  simp only [cdC,ints] at hv hfn ⊢
  generalize hR:(fun (r:D) (h:List (Option (List C)))=>r = .tup _∧h=[])=R
  refine dcZ Tryz.func10 ?_
  simp only [go_sem]
  iterate 4 ((try (refine drvZ Tryz.func10 ?_;simp only [go_sem]));((with_reducible and_intros)<;>try exact sd);(try first | refine XK.p hv ok41 ?_ | refine XK.gp hv ok41 ?_))
  refine XK.callG [] hfn ok42 (fun i' x h=>by simp at h) (hbT ()) (fun d h' ⟨_,e⟩=>by subst e;simp) ?_
  rintro _ _ ⟨rfl,rfl⟩ _
  iterate 4 ((try (refine drvZ Tryz.func10 ?_;simp only [go_sem,boolsC_ren,List.length_map]));((with_reducible and_intros)<;>try exact sd))
  have hpb:∀ i,plF l i≤2 * i:=plF_le l
  refine Go.loopQ (fun i : Nat => [(1, .c (.ptr 0 0)), (2, .c (.ptr 64 0)), (4, .c (.msl 448 1 0 l.length)), (5, .c (.msl 576 1 0 i)), (6, DI .i64 (plF l i : Nat)), (7, DI .i64 i)])
   (fun i=>[(0,some [isI vs,isI ar,.isl 5 (l.map inX)]),(64,some [.v (.slice none 0 0),.v (.slice none 0 0),.v (.slice none 0 0)]),(448,some (boolsC (fnR l))),(576,some ((plK l i).map I64))]) 4096 (fun i=>i≤l.length) (fun i=>l.length - i) ?_ 0 some [] _ (Nat.zero_le _) ?_
  ·intro i hi again
   rcases Nat.lt_or_ge i l.length with hlt | hge
   ·obtain ⟨x,hx⟩:∃ x,l[i]? = some x:=⟨l[i],by simp [hlt]⟩
    have hat:=CtL.atC_get hx
    have a1:=bC_at (fnR_at hlt)
    have a3:=plK_len l i
    have hbl:=boolsC_len (fnR l)
    rw [fnR_len] at hbl
    have c1:=hpb i
    have e5:plF l (i+1)=plF l i+1+(needF l i).toNat:=by rw [plF]
    have e4:=plK_succ l i
    have hnf:needF l i=((fnR l).getD i false && !decide (x.op=12)):=by rw [needF,hat]
    generalize hq:needF l i=q at *
    generalize (fnR l).getD i false=m at *
    obtain ⟨op,xa,xb,xc,xd⟩:=x
    simp only at hnf
    cases m with
    | true =>
     by_cases h12:op=12
     ·subst h12
      obtain rfl:q=false:=by simpa using hnf
      refine drvL Tryz.func10 ?_
      simp only [go_sem,hx,inX,hlt,a1]
      iterate 9 ((try (refine drvZ Tryz.func10 ?_;simp only [go_sem,hx,inX,hlt,hbl,a1,a3,List.length_map,bne_self_eq_false]));((with_reducible and_intros)<;>try exact sd))
      refine again (i+1) (fun j=>if j=576 then some 4608 else some j) [] _ hlt (by omega) ?_
      rw [e4,e5]
      simp only [go_sem,TmOK,DM,DMs,CM,CMs,forall_eq,exists_eq_left,Mq,HpOK,LowOK]
      simp [CMs_I,CMs_bC,I_app,CMs_I1]
     ·have g12:(op == 12)=false:=by simp [h12]
      have n12:(op != 12)=true:=by simp [h12]
      obtain rfl:q=true:=by simpa [h12] using hnf
      refine drvL Tryz.func10 ?_
      simp only [go_sem,hx,inX,hlt,a1,g12,n12,h12]
      iterate 9 ((try (refine drvZ Tryz.func10 ?_;simp only [go_sem,hx,inX,hlt,hbl,a1,a3,List.length_map,bne_self_eq_false,g12,n12,h12]));((with_reducible and_intros)<;>try exact sd))
      refine again (i+1) (fun j=>if j=576 then some 4608 else some j) [] _ hlt (by omega) ?_
      rw [e4,e5]
      simp only [go_sem,TmOK,DM,DMs,CM,CMs,forall_eq,exists_eq_left,Mq,HpOK,LowOK]
      simp [CMs_I,CMs_bC,I_app,CMs_I1]
    | false =>
     obtain rfl:q=false:=by simpa using hnf
     refine drvL Tryz.func10 ?_
     simp only [go_sem,hx,inX,hlt,a1]
     iterate 9 ((try (refine drvZ Tryz.func10 ?_;simp only [go_sem,hx,inX,hlt,hbl,a1,a3,List.length_map,bne_self_eq_false]));((with_reducible and_intros)<;>try exact sd))
     refine again (i+1) (fun j=>if j=576 then some 4608 else some j) [] _ hlt (by omega) ?_
     rw [e4,e5]
     simp only [go_sem,TmOK,DM,DMs,CM,CMs,forall_eq,exists_eq_left,Mq,HpOK,LowOK]
     simp [CMs_I,CMs_bC,I_app,CMs_I1]
   ·have hn:¬ i<l.length:=by omega
    obtain rfl:i=l.length:=by omega
    by_cases q400:plF l l.length≤400
    ·have h400:((plF l l.length:Nat):Int)≤400:=by omega
     have h401:¬ (400<((plF l l.length:Nat):Int)):=by omega
     rw [if_pos q400] at hR
     simp only at hR
     refine drvL Tryz.func10 ?_
     simp only [go_sem,hn]
     iterate 4 ((try (refine drvZ Tryz.func10 ?_;simp only [go_sem,hn,h400,h401,List.length_map,flat_I']));((with_reducible and_intros)<;>try exact sd))
     refine Go.loopQ (fun i : Nat => [(1, .c (.ptr 0 0)), (2, .c (.ptr 64 0)), (4, .c (.msl 448 1 0 l.length)), (5, .c (.msl 576 1 0 l.length)), (8, .c (.ptr 2000 0)), (9, DI .i64 i)])
      (fun i=>[(0,some [isI vs,isI ar,.isl 5 (l.map inX)]),(64,some [.v (.slice none 0 0),.v (.slice none 0 0),.v (.slice none 0 0)]),(448,some (boolsC (fnR l))),(576,some ((plK l l.length).map I64)),(2000,some [.msl 2001 1 0 vs.length,.msl 2002 1 0 ar.length,.msl 1000 5 0 (plF l i)]),(2001,some (vs.map I64)),(2002,some (ar.map I64)),(1000,some (inC (fnL l i)))]) 4096 (fun i=>i≤l.length) (fun i=>l.length - i) ?_ 0 (fun j=>if j=1000 then none else if j=2000 then some 5120 else if j=2001 then some 4736 else if j=2002 then some 4992 else some j) [] _ (Nat.zero_le _) ?_
     ·intro i hi again
      rcases Nat.lt_or_ge i l.length with hlt | hge
      ·obtain ⟨x,hx⟩:∃ x,l[i]? = some x:=⟨l[i],by simp [hlt]⟩
       have hat:=CtL.atC_get hx
       have a1:=bC_at (fnR_at hlt)
       have a3:=plK_len l l.length
       have hbl:=boolsC_len (fnR l)
       rw [fnR_len] at hbl
       have e2:=CtL.fnL_len l i
       have e3:=inC_len (fnL l i)
       rw [e2] at e3
       have d0:plF l i≤400:=by
        have:=plF_mono l i (l.length - i)
        rw [Nat.add_sub_cancel' hi] at this
        omega
       have e4:fnL l (i+1)=fnL l i++((if needF l i then [fence] else [])++[aimF l x]):=by rw [fnL,hat]
       have e5:plF l (i+1)=plF l i+1+(needF l i).toNat:=by rw [plF]
       have hnf:needF l i=((fnR l).getD i false && !decide (x.op=12)):=by rw [needF,hat]
       have htg:=tgtS x
       have haf:aimF l x=if 0≤tgt x then aim x (plF l (tgt x).toNat) else x:=rfl
       have hto:=fun t ho=>aimS x t ho
       have hpl:=(hw i hlt).1
       rw [hat] at hpl
       have e6:∀ z1 z2 z3 z4 z5:C,(inC (fnL l i)++[z1,z2,z3,z4,z5]).length=(plF l i+1) * 5:=fun z1 z2 z3 z4 z5=>by rw [List.length_append,e3];simp;omega
       obtain ⟨op,xa,xb,xc,xd⟩:=x
       unfold inX at htg hto
       have tgo:tgt ⟨op,xa,xb,xc,xd⟩ ≠ -1→op=8∨op=9∨op=10:=fun h=>by
        by_cases h8:op=8
        ·exact .inl h8
        ·by_cases h9:op=9
         ·exact .inr (.inl h9)
         ·by_cases h10:op=10
          ·exact .inr (.inr h10)
          ·exact absurd (CtL.tgt_no (x:=⟨op,xa,xb,xc,xd⟩) h8 h9 h10) h
       simp only at hpl hto hnf
       generalize needF l i=q at *
       generalize (fnR l).getD i false=m at *
       generalize tgt ⟨op,xa,xb,xc,xd⟩=t at *
       by_cases ht:0≤t
       ·obtain ⟨k,rfl⟩:∃ k:Nat,t=k:=⟨t.toNat,by omega⟩
        rw [if_pos ht,Int.toNat_natCast] at haf
        have ho:=tgo (by omega)
        have hk:k<l.length:=by have:=(hpl ho).2;rwa [Int.toNat_natCast] at this
        have hpk:((plK l l.length).map I64)[k]? = some (I64 (plF l k:Nat)):=by rw [List.getElem?_map,plK_at hk];rfl
        have hto:=hto (plF l k:Nat) ho
        obtain ⟨y,hy⟩:∃ y,aim ⟨op,xa,xb,xc,xd⟩ (plF l k:Nat)=y:=⟨_,rfl⟩
        rw [hy] at hto haf
        obtain ⟨yo,ya,yb,yc,yd⟩:=y
        rw [haf] at e4
        have h12:op ≠ 12:=by omega
        have g12:(op == 12)=false:=by simp [h12]
        have n12:(op != 12)=true:=by simp [h12]
        cases m with
        | true =>
         obtain rfl:q=true:=by simpa [h12] using hnf
         refine drvL Tryz.func10 ?_
         simp only [go_sem,hx,inX,hlt,a1,g12,n12,h12]
         iterate 12 ((try (refine drvZ Tryz.func10 ?_;simp only [go_sem,hx,inX,hlt,hbl,a1,a3,e3,e6,List.length_map,bne_self_eq_false,ht,hpk,hk,plK_at hk,g12,n12,h12]));((with_reducible and_intros)<;>try exact sd);(try first | refine XK.p htg ok43 ?_ | refine XK.gp htg ok43 ?_ | refine XK.p hto ok44 ?_ | refine XK.gp hto ok44 ?_))
         refine again (i+1) (fun j=>if j=1000 then some 6848 else some j) [] _ hlt (by omega) ?_
         rw [e4,e5]
         simp only [go_sem,TmOK,DM,DMs,CM,CMs,forall_eq,exists_eq_left,Mq,HpOK,LowOK]
         simp [CMs_I,CMs_bC,inC_app,inCc,inCn,inX,fence]
         first | done | exact CMs.kf (kf_app (inC_kf _) (by simp [kf])) | exact ⟨by omega,CMs.kf (kf_app (inC_kf _) (by simp [kf]))⟩ | exact ⟨by omega,by omega,CMs.kf (kf_app (inC_kf _) (by simp [kf]))⟩
        | false =>
         obtain rfl:q=false:=by simpa using hnf
         refine drvL Tryz.func10 ?_
         simp only [go_sem,hx,inX,hlt,a1,g12,n12,h12]
         iterate 12 ((try (refine drvZ Tryz.func10 ?_;simp only [go_sem,hx,inX,hlt,hbl,a1,a3,e3,e6,List.length_map,bne_self_eq_false,ht,hpk,hk,plK_at hk,g12,n12,h12]));((with_reducible and_intros)<;>try exact sd);(try first | refine XK.p htg ok43 ?_ | refine XK.gp htg ok43 ?_ | refine XK.p hto ok44 ?_ | refine XK.gp hto ok44 ?_))
         refine again (i+1) (fun j=>if j=1000 then some 6400 else some j) [] _ hlt (by omega) ?_
         rw [e4,e5]
         simp only [go_sem,TmOK,DM,DMs,CM,CMs,forall_eq,exists_eq_left,Mq,HpOK,LowOK]
         simp [CMs_I,CMs_bC,inC_app,inCc,inCn,inX,fence]
         first | done | exact CMs.kf (kf_app (inC_kf _) (by simp [kf])) | exact ⟨by omega,CMs.kf (kf_app (inC_kf _) (by simp [kf]))⟩ | exact ⟨by omega,by omega,CMs.kf (kf_app (inC_kf _) (by simp [kf]))⟩
       ·rw [if_neg ht] at haf
        rw [haf] at e4
        cases m with
        | true =>
         by_cases h12:op=12
         ·subst h12
          obtain rfl:q=false:=by simpa using hnf
          refine drvL Tryz.func10 ?_
          simp only [go_sem,hx,inX,hlt,a1]
          iterate 12 ((try (refine drvZ Tryz.func10 ?_;simp only [go_sem,hx,inX,hlt,hbl,a1,a3,e3,e6,List.length_map,bne_self_eq_false,ht]));((with_reducible and_intros)<;>try exact sd);(try first | refine XK.p htg ok43 ?_ | refine XK.gp htg ok43 ?_ | refine XK.p hto ok44 ?_ | refine XK.gp hto ok44 ?_))
          refine again (i+1) (fun j=>if j=1000 then some 5888 else some j) [] _ hlt (by omega) ?_
          rw [e4,e5]
          simp only [go_sem,TmOK,DM,DMs,CM,CMs,forall_eq,exists_eq_left,Mq,HpOK,LowOK]
          simp [CMs_I,CMs_bC,inC_app,inCc,inCn,inX,fence]
          first | done | exact CMs.kf (kf_app (inC_kf _) (by simp [kf])) | exact ⟨by omega,CMs.kf (kf_app (inC_kf _) (by simp [kf]))⟩ | exact ⟨by omega,by omega,CMs.kf (kf_app (inC_kf _) (by simp [kf]))⟩
         ·have g12:(op == 12)=false:=by simp [h12]
          have n12:(op != 12)=true:=by simp [h12]
          obtain rfl:q=true:=by simpa [h12] using hnf
          refine drvL Tryz.func10 ?_
          simp only [go_sem,hx,inX,hlt,a1,g12,n12,h12]
          iterate 12 ((try (refine drvZ Tryz.func10 ?_;simp only [go_sem,hx,inX,hlt,hbl,a1,a3,e3,e6,List.length_map,bne_self_eq_false,ht,g12,n12,h12]));((with_reducible and_intros)<;>try exact sd);(try first | refine XK.p htg ok43 ?_ | refine XK.gp htg ok43 ?_ | refine XK.p hto ok44 ?_ | refine XK.gp hto ok44 ?_))
          refine again (i+1) (fun j=>if j=1000 then some 6336 else some j) [] _ hlt (by omega) ?_
          rw [e4,e5]
          simp only [go_sem,TmOK,DM,DMs,CM,CMs,forall_eq,exists_eq_left,Mq,HpOK,LowOK]
          simp [CMs_I,CMs_bC,inC_app,inCc,inCn,inX,fence]
          first | done | exact CMs.kf (kf_app (inC_kf _) (by simp [kf])) | exact ⟨by omega,CMs.kf (kf_app (inC_kf _) (by simp [kf]))⟩ | exact ⟨by omega,by omega,CMs.kf (kf_app (inC_kf _) (by simp [kf]))⟩
        | false =>
         obtain rfl:q=false:=by simpa using hnf
         refine drvL Tryz.func10 ?_
         simp only [go_sem,hx,inX,hlt,a1]
         iterate 12 ((try (refine drvZ Tryz.func10 ?_;simp only [go_sem,hx,inX,hlt,hbl,a1,a3,e3,e6,List.length_map,bne_self_eq_false,ht]));((with_reducible and_intros)<;>try exact sd);(try first | refine XK.p htg ok43 ?_ | refine XK.gp htg ok43 ?_ | refine XK.p hto ok44 ?_ | refine XK.gp hto ok44 ?_))
         refine again (i+1) (fun j=>if j=1000 then some 5888 else some j) [] _ hlt (by omega) ?_
         rw [e4,e5]
         simp only [go_sem,TmOK,DM,DMs,CM,CMs,forall_eq,exists_eq_left,Mq,HpOK,LowOK]
         simp [CMs_I,CMs_bC,inC_app,inCc,inCn,inX,fence]
         first | done | exact CMs.kf (kf_app (inC_kf _) (by simp [kf])) | exact ⟨by omega,CMs.kf (kf_app (inC_kf _) (by simp [kf]))⟩ | exact ⟨by omega,by omega,CMs.kf (kf_app (inC_kf _) (by simp [kf]))⟩
      ·have hn:¬ i<l.length:=by omega
       obtain rfl:i=l.length:=by omega
       refine drvL Tryz.func10 ?_
       simp only [go_sem,hn]
       iterate 2 ((try (refine drvZ Tryz.func10 ?_;simp only [go_sem,hn]));((with_reducible and_intros)<;>try exact sd))
       exact RetOb.cdO (L:=fnL l l.length) (by rw [← hR];exact ⟨rfl,rfl⟩) rfl rfl rfl rfl rfl (CtL.fnL_len l _).symm
     ·simp only [go_sem,TmOK,DM,DMs,CM,CMs,forall_eq,exists_eq_left,Mq,HpOK,LowOK]
      have z0:plF l 0=0:=rfl
      simp [upd,isI,CMs_I,CMs,CM,kf,z0,fnL,inC,CMs_bC]
    ·have h400:¬ ((plF l l.length:Nat):Int)≤400:=by omega
     have h401:400<((plF l l.length:Nat):Int):=by omega
     rw [if_neg q400] at hR
     simp only at hR
     refine drvL Tryz.func10 ?_
     simp only [go_sem,hn]
     iterate 4 ((try (refine drvZ Tryz.func10 ?_;simp only [go_sem,hn,h400,h401]));((with_reducible and_intros)<;>try exact sd))
     exact RetOb.noCode (by rw [← hR];exact ⟨rfl,rfl⟩)
  ·simp only [go_sem,TmOK,DM,DMs,CM,CMs,forall_eq,exists_eq_left,Mq,HpOK,LowOK]
   have z0:plF l 0=0:=rfl
   simp [upd,isI,CMs_I,CMs,CM,kf,z0,CMs_bC,plK]
open CtL (In Cd Mc stepM kindsOf topOf fOK inOK endOK codeOK runM atC halt pathM)
theorem mownI (pc : Int) (rg : List Int) (m : Mm) (hrg : rg.length = 14) (hv : m.vals.length ≤ 1000) (ha : m.arrays.length ≤ 2) (h4 : ∀ a ∈ m.arrays, a.length = 4) :
 DC Tryz.prog 108 [.agg (I64 pc :: isI rg :: m.cells)] [] (fun r h=>r = .agg [I64 pc,.msl 0 1 0 14,.msl 1 1 0 m.vals.length,.msl 2 1 0 m.arrays.length]∧h=mcB 0 rg m):=by
 have hmx:=mx_eq
 have how:=own m hv ha h4
 have hcl:=cloneI rg (by omega)
 rw [hrg] at hcl
 unfold memB at how
 obtain ⟨va,arr⟩:=m
 simp only [ints] at hcl
 refine dcZ Tryz.func108 ?_
 simp only [go_sem,Mm.cells]
 iterate 2 ((try (refine drvZ Tryz.func108 ?_;simp only [go_sem,Mm.cells]));((with_reducible and_intros)<;>try exact sd))
 refine XK.callG [] hcl ok33 (fun i' x h=>by simp at h) (hbT ()) (fun d h' ⟨_,e⟩=>by subst e;simp) ?_ (fun _=>⟨by kernel_rfl,_,_,⟨rfl,rfl⟩,by simp⟩)
 rintro _ _ ⟨rfl,rfl⟩ _
 iterate 2 ((try (refine drvZ Tryz.func108 ?_;simp only [go_sem,Mm.cells,renCs_I]));((with_reducible and_intros)<;>try exact sd))
 refine XK.callG [] how ok53 (fun i' x h=>by simp at h) (hbT ()) (fun d h' ⟨_,e⟩=>by subst e;simp) ?_ (fun _=>⟨by kernel_rfl,_,_,⟨rfl,rfl⟩,by simp⟩)
 rintro _ _ ⟨rfl,rfl⟩ _
 iterate 3 ((try (refine drvZ Tryz.func108 ?_;simp only [go_sem,Mm.cells,renCs_I,renCs_hdr,renCs_b0,renCs_b1]));((with_reducible and_intros)<;>try exact sd))
 refine RetOb.ofQ (fun j=>if j=0 then some 384 else if j=1 then some 576 else if j=2 then some 577 else if j=3 then some 578 else if j=4 then some 579 else none) [] (.agg [I64 pc,.msl 0 1 0 14,.msl 1 1 0 va.length,.msl 2 1 0 arr.length]) (mcB 0 rg ⟨va,arr⟩) ?_ ⟨rfl,rfl⟩ (by simp)
 simp [mcB,enumL,hOf,DM,CMs,CM,HpOK,LowOK,upd,CMs_I,appUp,upsFrom,rkey,wkey,renCs_I,renCs_hdr,renCs_b0,renCs_b1,CMs_b0,CMs_b1,CMs_hdr]
theorem pathI (c:Cd) (hc:codeOK c=true) (s0:Mc) (hs0:MOK c s0):DC Tryz.prog 59 [.agg (cdC c),.agg (I64 s0.pc :: isI s0.regs :: s0.mem.cells)] [] (fun r h=>r = .c (.msl 0 2 0 (pathM c.list 4 s0).length)∧h=[some (trC (pathM c.list 4 s0))]):=by
 have hmx:=mx_eq
 have hcl:=code_len hc
 have hml:=hs0.mem
 have how:=mownI s0.pc s0.regs s0.mem hs0.len (by have:=hml.nv12;have:=hml.nv;omega) (by have:=hml.na2;have:=hml.na;omega) (fun a ha=>(hml.arr a ha).1)
 have hstep:=fun s x hs hx h=>stepI c s x (by omega) hs hx h
 have ret:∀ (T:List Ev) (K n:Nat) (cs:List C) (hp:Hp),hp K=some (some cs)→cs=trC T→n=T.length→T=pathM c.list 4 s0→RetOb 0 (fun r h=>r = .c (.msl 0 2 0 (pathM c.list 4 s0).length)∧h=[some (trC (pathM c.list 4 s0))]) (.c (.msl K 2 0 n)) hp:=by
  rintro T K n cs hp h1 rfl rfl rfl
  refine RetOb.ofQ (fun j=>if j=0 then some K else none) [] _ _ ?_ ⟨rfl,rfl⟩ (by simp)
  simp [enumL,hOf,DM,CM,HpOK,LowOK,upd,h1,CMs_tr]
 generalize hR:(fun (r:D) (h:List (Option (List C)))=>r = .c (.msl 0 2 0 (pathM c.list 4 s0).length)∧h=[some (trC (pathM c.list 4 s0))])=R at ret ⊢
 clear hR
 have hst0:stB s0=[some [I64 s0.pc,.msl 1 1 0 14,.msl 2 1 0 s0.mem.vals.length,.msl 3 1 0 s0.mem.arrays.length],some (s0.regs.map I64),some (s0.mem.vals.map I64),some (hdr 4 5 s0.mem.arrays.length),some (blk0 s0.mem.arrays),some (blk1 s0.mem.arrays)]:=rfl
 obtain ⟨vs,ar,l⟩:=c
 simp only at hcl ret
 simp only [Mm.cells,cdC,ints] at how ⊢
 refine dcZ Tryz.func59 ?_
 simp only [go_sem]
 ((try (refine drvZ Tryz.func59 ?_;simp only [go_sem]));((with_reducible and_intros)<;>try exact sd))
 refine XK.callG [] how ok108 (fun i' x h=>by simp at h) (hbT ()) (fun d h' ⟨_,e⟩=>by subst e;simp) ?_
 rintro _ _ ⟨rfl,rfl⟩ _
 iterate 3 ((try (refine drvZ Tryz.func59 ?_;simp only [go_sem,renCs_I,renCs_hdr,renCs_b0,renCs_b1]));((with_reducible and_intros)<;>try exact sd))
 refine Go.loopQ (fun x : Nat × Mc × List Ev => [(2, .c (.ptr 0 0)), (5, .c (.ptr 200 0)), (6, .c (.msl 300 2 0 x.2.2.length)), (10, DI .i64 x.1)])
  (fun x=>[(0,some [isI vs,isI ar,.isl 5 (l.map inX)]),(200,some [I64 x.2.1.pc,.msl 201 1 0 14,.msl 202 1 0 x.2.1.mem.vals.length,.msl 203 1 0 x.2.1.mem.arrays.length]),(201,some (x.2.1.regs.map I64)),(202,some (x.2.1.mem.vals.map I64)),(203,some (hdr 204 205 x.2.1.mem.arrays.length)),(204,some (blk0 x.2.1.mem.arrays)),(205,some (blk1 x.2.1.mem.arrays)),(300,some (trC x.2.2))])
  8192 (fun x=>x.1≤4∧MOK ⟨vs,ar,l⟩ x.2.1∧x.2.2.length≤2 * x.1∧pathM l 4 s0=x.2.2++pathM l (4 - x.1) x.2.1) (fun x=>4 - x.1) ?_ (0,s0,[]) (fun j=>if j=200 then some 320 else if j=300 then none else if 201≤j then some (j+55) else some j) [] _ ⟨by simp,hs0,by simp,by simp⟩ ?_
 ·rintro ⟨i,s,T⟩ ⟨hi,hs,hT,hrun⟩ again
  simp only at hi hs hT hrun again ⊢
  rcases Nat.lt_or_ge i 4 with hlt | hge
  ·obtain ⟨x,hx⟩:∃ x,l[s.pc]? = some x:=⟨l[s.pc]'hs.pc,by simp⟩
   have hxi:inOK vs.length ar.length l.length x=true:=by
    have hc':=hc
    simp only [codeOK,Bool.and_eq_true,List.all_eq_true] at hc'
    exact hc'.1.2 x (List.mem_of_getElem? hx)
   have hst:=hstep s x hs hx hxi
   have hso:=step_ok hc hs hx
   have hel:=step_len x s
   have hat:atC l s.pc=x:=by simp [atC,List.getD,hx]
   have hlt':(i:Int)<4:=by omega
   have hpl:s.pc<l.length:=hs.pc
   have hrn:pathM l (4 - i) s=(stepM x s).2++(if x.op=12∨x.op=13 then [] else pathM l (4 - (i+1)) (stepM x s).1):=by
    rw [show 4 - i=(4 - (i+1))+1 by omega,pathM,hat]
   unfold stepR at hst
   generalize stepM x s=y at *
   obtain ⟨s2,E⟩:=y
   simp only at hst hso hel hrn
   have e1:=trC_len T
   have e2:=trC_len E
   have e3:(trC E).take (E.length * 2)=trC E:=by rw [← e2,List.take_length]
   unfold stB cdC at hst
   obtain ⟨op,xa,xb,xc,xd⟩:=x
   simp only [ints] at hrn hst
   refine drvL Tryz.func59 ?_
   simp only [go_sem,hlt']
   iterate 3 ((try (refine drvZ Tryz.func59 ?_;simp only [go_sem,hlt',hx,hpl,inX,List.length_map]));((with_reducible and_intros)<;>try exact sd))
   refine XK.callG [200,201,202,203,204,205] hst ok107 (hhpG (by simp [HH,upd,hOf,hpL,renCs_I,renCs_hdr,renCs_b0,renCs_b1,renCs,renC,rk0])) (hbT ()) (fun d h' ⟨_,e⟩=>by subst e;simp [stB]) ?_
   rintro _ _ ⟨rfl,rfl⟩ _
   by_cases h12:op=12
   ·subst h12
    rw [if_pos (.inl rfl),List.append_nil] at hrn
    iterate 6 ((try (refine drvZ Tryz.func59 ?_;simp only [go_sem,stB,renCs_I,renCs_hdr,renCs_b0,renCs_b1,renCs_tr,e1,e2,e3]));((with_reducible and_intros)<;>try exact sd))
    exact ret (T++E) _ _ _ _ rfl (trC_app T E).symm (by simp) (by rw [hrun,hrn])
   ·by_cases h13:op=13
    ·subst h13
     rw [if_pos (.inr rfl),List.append_nil] at hrn
     iterate 6 ((try (refine drvZ Tryz.func59 ?_;simp only [go_sem,stB,renCs_I,renCs_hdr,renCs_b0,renCs_b1,renCs_tr,e1,e2,e3]));((with_reducible and_intros)<;>try exact sd))
     exact ret (T++E) _ _ _ _ rfl (trC_app T E).symm (by simp) (by rw [hrun,hrn])
    ·have g12:(op == 12)=false:=by simp [h12]
     have g13:(op == 13)=false:=by simp [h13]
     rw [if_neg (by omega)] at hrn
     iterate 6 ((try (refine drvZ Tryz.func59 ?_;simp only [go_sem,stB,renCs_I,renCs_hdr,renCs_b0,renCs_b1,renCs_tr,e1,e2,e3,g12,g13,h12,h13]));((with_reducible and_intros)<;>try exact sd))
     refine again (i+1,s2,T++E) (fun j=>if j=300 then some 8960 else some j) [] _ ⟨hlt,hso,by rw [List.length_append];omega,by rw [hrun,hrn,List.append_assoc]⟩ (by simp only;omega) ?_
     simp only [go_sem,TmOK,DM,DMs,CM,CMs,forall_eq,exists_eq_left,Mq,HpOK,LowOK]
     simp [upd,hOf,hpL,CMs_I,CMs_tr,CMs_hdr,CMs_b0,CMs_b1,CM,trC_app]
     exact CMs.kf (kf_app (trC_kf T) (trC_kf E))
  ·obtain rfl:i=4:=by omega
   have hz:(((4:Nat):Int)<4)=False:=eq_false (by decide)
   refine drvL Tryz.func59 ?_
   simp only [go_sem,hz]
   iterate 3 ((try (refine drvZ Tryz.func59 ?_;simp only [go_sem,hz]));((with_reducible and_intros)<;>try exact sd))
   exact ret T _ _ _ _ rfl rfl rfl (by rw [hrun];simp [pathM])
 ·simp only [go_sem,TmOK,DM,DMs,CM,CMs,forall_eq,exists_eq_left,Mq,HpOK,LowOK]
  simp [upd,hOf,hpL,CMs_I,CMs_tr,CMs_hdr,CMs_b0,CMs_b1,CM,trC,CMs]
theorem trC_scal (T:List Ev):∀ c ∈ trC T,∃ v,c = .v v:=fun c hc=>by
 obtain ⟨x,hx,hc⟩:=List.mem_flatten.1 hc
 obtain ⟨e,_,rfl⟩:=List.mem_map.1 hx
 simp only [Ev.cells,List.mem_cons,List.not_mem_nil,or_false] at hc
 rcases hc with rfl | rfl<;>exact ⟨_,rfl⟩
theorem frzMc (cc : List C) (pc : Int) (rg : List Int) (m : Mm) (hcc : ∀ c ∈ cc, kf c = true) (hrg : rg.length = 14) (ha : m.arrays.length ≤ 2) (h4 : ∀ a ∈ m.arrays, a.length = 4) :
 Frz (hpL (mcB 0 rg m)) [.agg cc,.agg [I64 pc,.msl 0 1 0 14,.msl 1 1 0 m.vals.length,.msl 2 1 0 m.arrays.length]] [.agg cc,.agg (I64 pc :: isI rg :: m.cells)]:=by
 obtain ⟨va,arr⟩:=m
 simp only at ha h4
 refine Frz.step (fun j=>if j<3 then some j else none) [3,4] [(0,some (rg.map I64)),(1,some (va.map I64)),(2,some (arr.map isI))] (args1:=[.agg cc,.agg [I64 pc,.msl 0 1 0 14,.msl 1 1 0 va.length,.msl 2 1 0 arr.length]]) ⟨?_,by simp⟩ ?_ (Frz.of [0,1,2] ?_)
 ·match arr,ha,h4 with
  | [],_,h4=>simp [HpOK,hpL,CMs_I,hdr,CMs]
  | [a],_,h4 =>
   have q1:=h4 a (by simp)
   simp [HpOK,hpL,CMs_I,hdr,CMs,CM,isI,q1,flat_I',blk0,kf]
  | [a,b],_,h4 =>
   have q1:=h4 a (by simp)
   have q2:=h4 b (by simp)
   simp [HpOK,hpL,CMs_I,hdr,CMs,CM,isI,q1,q2,flat_I',blk0,blk1,kf]
 ·simp only [DMs,DM]
  refine ⟨CMs.kf hcc,?_,trivial⟩
  simp [CMs,CM,hOf,upd]
 ·simp only [DMs,DM]
  refine ⟨CMs.kf hcc,?_,trivial⟩
  have e3:(arr.map fun a=>[C.isl 1 (a.map fun n=>[I64 n])]).flatten=arr.map isI:=flat1 isI arr
  simp [Mm.cells,CMs,CM,hOf,upd,isI,flat_I',hrg,kf]
  exact e3.symm
theorem pathO (c : Cd) (hc : codeOK c = true) (s : Mc) (hs : MOK c s) (pc : Nat) (hp : pc < c.list.length) : DC Tryz.prog 59 [.agg (cdC c), .agg [I64 pc, .msl 0 1 0 14, .msl 1 1 0 s.mem.vals.length, .msl 2 1 0 s.mem.arrays.length]] (mcB 0 s.regs s.mem)
 (fun r h=>r = .c (.msl 5 2 0 (pathM c.list 4 ⟨pc,s.regs,s.mem⟩).length)∧h=mcB 0 s.regs s.mem++[some (trC (pathM c.list 4 ⟨pc,s.regs,s.mem⟩))]):=by
 have hcl:=code_len hc
 have hml:=hs.mem
 have hna:=hml.na
 have hna2:=hml.na2
 have:=DC.borrowB (frzMc (cdC c) pc s.regs s.mem (by simp [cdC,ints,isI,kf]) hs.len (by omega) (fun a ha=>(hml.arr a ha).1)) (pathI c hc ⟨pc,s.regs,s.mem⟩ ⟨hp,hs.len,hs.reg,hs.mem⟩) (trC_scal _)
 exact this
end Go.Proofs.YtbknljofedfpjaaGreat.CtD
