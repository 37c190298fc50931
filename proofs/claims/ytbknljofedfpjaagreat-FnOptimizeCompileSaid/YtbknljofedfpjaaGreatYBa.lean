/- Contracts of functions of the program, one behind the other, as plain data: what each call returns and which blocks it leaves. -/
import Derived.Test.YtbknljofedfpjaaGreatYFacts
import Derived.Test.YtbknljofedfpjaaGreatYAj
import Derived.Test.YtbknljofedfpjaaGreatYAk
import Derived.Test.YtbknljofedfpjaaGreatYAm
import Derived.Test.YtbknljofedfpjaaGreatYAo
import Derived.Test.YtbknljofedfpjaaGreatYAq
import Derived.Test.YtbknljofedfpjaaGreatYAr
import Derived.Test.YtbknljofedfpjaaGreatYAs
import Derived.Test.YtbknljofedfpjaaGreatYAt
import Derived.Test.YtbknljofedfpjaaGreatYAv
import Derived.Test.YtbknljofedfpjaaGreatYAw
import Derived.Test.YtbknljofedfpjaaGreatYAx
import Derived.Test.YtbknljofedfpjaaGreatYAy
import Derived.Test.YtbknljofedfpjaaGreatYAz
set_option linter.unusedVariables false
set_option linter.unusedSimpArgs false
set_option linter.unusedSectionVars false
set_option maxHeartbeats 16000000
set_option maxRecDepth 100000
namespace Go.Proofs.YtbknljofedfpjaaGreat.CtD
open Go Go.CT CtF CtR
variable [Yn]
open CtL (In Cd tgt aim WfC atC codeOK rchL keepT trC2 thL optS OptR optM)
noncomputable def dpL (l:List In) (i:Nat):List Bool:=(List.range i).map (fun i => !keepT l i)++(rchL l).drop i
theorem dpL_len {l:List In} {i:Nat} (h:i≤l.length):(dpL l i).length=l.length:=by simp [dpL,CtL.rchL_len];omega
theorem dpL_at {l:List In} {i:Nat} (h:i<l.length):(dpL l i)[i]? = some ((rchL l).getD i false):=by
 rw [dpL,List.getElem?_append_right (by simp),List.length_map,List.length_range,Nat.sub_self,List.getElem?_drop,Nat.add_zero,List.getD_eq_getElem?_getD,List.getElem?_eq_getElem (by rw [CtL.rchL_len];exact h)]
 rfl
theorem dpL_set {l:List In} {i:Nat} (h:i<l.length):(dpL l i).set i (!keepT l i)=dpL l (i+1):=by
 have hd:(rchL l).drop i=(rchL l)[i]'(by rw [CtL.rchL_len];exact h) :: (rchL l).drop (i+1):=List.drop_eq_getElem_cons (by rw [CtL.rchL_len];exact h)
 have:=snoc_set ((List.range i).map fun i => !keepT l i) ((rchL l).drop (i+1)) ((rchL l)[i]'(by rw [CtL.rchL_len];exact h)) (!keepT l i)
 rw [List.length_map,List.length_range] at this
 rw [dpL,hd,this,dpL,List.range_succ,List.map_append]
 simp
theorem dpL_end (l:List In):dpL l l.length=dropL l:=by simp [dpL,dropL,CtL.rchL_len,List.drop_of_length_le]
theorem bfl (L:List Bool):(L.map fun b=>[C.v (.bool b)]).flatten=boolsC L:=flat1 _ _
theorem bf1 (L:List Bool):∀ x ∈ (L.map fun b=>[C.v (.bool b)]),x.length=1:=fun x hx=>by obtain ⟨b,_,rfl⟩:=List.mem_map.1 hx;rfl
theorem bfk (L:List Bool):∀ x ∈ (L.map fun b=>[C.v (.bool b)]),∀ c ∈ x,kf c=true:=fun x hx c hc=>by
 obtain ⟨b,_,rfl⟩:=List.mem_map.1 hx
 simp only [List.mem_singleton] at hc
 subst hc;rfl
theorem trimI (c:Cd) (h1:c.vars.length≤1000000) (h2:c.arrays.length≤1000000) (h3:c.list.length≤1000) (h0:0<c.list.length) (hw:WfC c.list):DC Tryz.prog 64 [.agg (cdC c)] [] (fun r h=>r = .agg (cdC ⟨c.vars,c.arrays,trC2 c.list⟩)∧h=[]):=by
 have hmx:=mx_eq
 have hre:=reachI c h3 h0 hw
 have hwo:=withoutI c h1 h2 (by omega) hw
 obtain ⟨vs,ar,l⟩:=c
 simp only at hw h1 h2 h3 h0 hre hwo
 have hbo:boolsD (dropL l) = .isl 1 ((dropL l).map fun b=>[C.v (.bool b)]):=rfl
 rw [hbo] at hwo
 simp only [cdC,ints] at hre hwo ⊢
 generalize hR:(fun (r:D) (h:List (Option (List C)))=>r = .agg _∧h=[])=R
 refine dcZ Tryz.func64 ?_
 simp only [go_sem]
 ((try (refine drvZ Tryz.func64 ?_;simp only [go_sem]));((with_reducible and_intros)<;>try exact sd))
 refine XK.callG [] hre ok111 (fun i' x h=>by simp at h) (hbT ()) (fun d h' ⟨_,e⟩=>by subst e;simp) ?_
 rintro _ _ ⟨rfl,rfl⟩ _
 iterate 3 ((try (refine drvZ Tryz.func64 ?_;simp only [go_sem,boolsC_ren,List.length_map]));((with_reducible and_intros)<;>try exact sd))
 have hd0:rchL l=dpL l 0:=by simp [dpL]
 rw [hd0]
 refine Go.loopQ (fun i : Nat => [(1, .c (.ptr 0 0)), (2, .c (.ptr 64 0)), (3, .c (.msl 192 1 0 l.length)), (9, .c (.isl 5 (l.map inX))), (10, DI .i64 l.length), (11, DI .i64 i)])
  (fun i=>[(0,some [isI vs,isI ar,.isl 5 (l.map inX)]),(64,some [.v (.slice none 0 0),.v (.slice none 0 0),.v (.slice none 0 0)]),(192,some (boolsC (dpL l i)))]) 4096 (fun i=>i≤l.length) (fun i=>l.length - i) ?_ 0 some [] _ (Nat.zero_le _) ?_
 ·intro i hi again
  rcases Nat.lt_or_ge i l.length with hlt | hge
  ·obtain ⟨x,hx⟩:∃ x,l[i]? = some x:=⟨l[i],by simp [hlt]⟩
   have hat:=CtL.atC_get hx
   have a1:=bC_at (dpL_at hlt)
   have hbl:=boolsC_len (dpL l i)
   rw [dpL_len hi] at hbl
   have b1:=dpL_set hlt
   have hkd:keepT l i=((rchL l).getD i false && !(decide (x.op=8) && decide (x.a=(i:Int)+1))):=by rw [keepT,hat]
   generalize dpL l i=N at *
   generalize hN':dpL l (i+1)=N' at *
   generalize (rchL l).getD i false=m at *
   obtain ⟨op,xa,xb,xc,xd⟩:=x
   simp only at hkd
   have fin:∀ S',Mq 0 some [] [(1,.c (.ptr 0 0)),(2,.c (.ptr 64 0)),(3,.c (.msl 192 1 0 l.length)),(9,.c (.isl 5 (l.map inX))),(10,DI .i64 l.length),(11,DI .i64 ((i+1:Nat):Int))] [(0,some [isI vs,isI ar,.isl 5 (l.map inX)]),(64,some [.v (.slice none 0 0),.v (.slice none 0 0),.v (.slice none 0 0)]),(192,some (boolsC N'))] S'→_:=fun S' hS=>again (i+1) some [] S' hlt (by omega) (by rw [hN'];exact hS)
   cases m with
   | false =>
    have hkq:(!keepT l i)=true:=by rw [hkd];simp []
    rw [hkq] at b1
    have b4:(boolsC N).set i (.v (.bool true))=boolsC N':=by rw [boolsC_set,b1]
    refine drvL Tryz.func64 ?_
    simp only [go_sem,hx,inX,hlt,a1]
    iterate 6 ((try (refine drvZ Tryz.func64 ?_;simp only [go_sem,hx,inX,hlt,a1,hbl,b4,List.length_map,beq_self_eq_true]));((with_reducible and_intros)<;>try exact sd))
    refine fin _ ?_
    simp only [go_sem,TmOK,DM,DMs,CM,CMs,forall_eq,exists_eq_left,Mq,HpOK,LowOK]
    simp [CMs_bC,CMs,CM,isI,kf]
   | true =>
    by_cases h8:op=8
    ·subst h8
     by_cases ha:xa=(i:Int)+1
     ·subst ha
      have hkq:(!keepT l i)=true:=by rw [hkd];simp []
      rw [hkq] at b1
      have b4:(boolsC N).set i (.v (.bool true))=boolsC N':=by rw [boolsC_set,b1]
      refine drvL Tryz.func64 ?_
      simp only [go_sem,hx,inX,hlt,a1]
      iterate 6 ((try (refine drvZ Tryz.func64 ?_;simp only [go_sem,hx,inX,hlt,a1,hbl,b4,List.length_map,beq_self_eq_true]));((with_reducible and_intros)<;>try exact sd))
      refine fin _ ?_
      simp only [go_sem,TmOK,DM,DMs,CM,CMs,forall_eq,exists_eq_left,Mq,HpOK,LowOK]
      simp [CMs_bC,CMs,CM,isI,kf]
     ·have ga:(xa == (i:Int)+1)=false:=by simp [ha]
      have hkq:(!keepT l i)=false:=by rw [hkd];simp [ha]
      rw [hkq] at b1
      have b4:(boolsC N).set i (.v (.bool false))=boolsC N':=by rw [boolsC_set,b1]
      refine drvL Tryz.func64 ?_
      simp only [go_sem,hx,inX,hlt,a1,ga,ha]
      iterate 6 ((try (refine drvZ Tryz.func64 ?_;simp only [go_sem,hx,inX,hlt,a1,hbl,b4,List.length_map,beq_self_eq_true,ga,ha]));((with_reducible and_intros)<;>try exact sd))
      refine fin _ ?_
      simp only [go_sem,TmOK,DM,DMs,CM,CMs,forall_eq,exists_eq_left,Mq,HpOK,LowOK]
      simp [CMs_bC,CMs,CM,isI,kf]
    ·have g8:(op == 8)=false:=by simp [h8]
     have hkq:(!keepT l i)=false:=by rw [hkd];simp [h8]
     rw [hkq] at b1
     have b4:(boolsC N).set i (.v (.bool false))=boolsC N':=by rw [boolsC_set,b1]
     refine drvL Tryz.func64 ?_
     simp only [go_sem,hx,inX,hlt,a1,g8,h8]
     iterate 6 ((try (refine drvZ Tryz.func64 ?_;simp only [go_sem,hx,inX,hlt,a1,hbl,b4,List.length_map,beq_self_eq_true,g8,h8]));((with_reducible and_intros)<;>try exact sd))
     refine fin _ ?_
     simp only [go_sem,TmOK,DM,DMs,CM,CMs,forall_eq,exists_eq_left,Mq,HpOK,LowOK]
     simp [CMs_bC,CMs,CM,isI,kf]
  ·have hn:¬ i<l.length:=by omega
   obtain rfl:i=l.length:=by omega
   rw [dpL_end]
   refine drvL Tryz.func64 ?_
   simp only [go_sem,hn]
   iterate 2 ((try (refine drvZ Tryz.func64 ?_;simp only [go_sem,hn]));((with_reducible and_intros)<;>try exact sd))
   refine XK.freeze 38 192 1 l.length ((dropL l).map fun b=>[C.v (.bool b)]) ?_ (by rw [bfl];rfl) rfl (by rw [List.length_map,dropL_len]) (bf1 _) (bfk _)
   iterate 3 ((try (refine drvZ Tryz.func64 ?_;simp only [go_sem,hn]));((with_reducible and_intros)<;>try exact sd);(try first | refine XK.p hwo ok112 ?_ | refine XK.gp hwo ok112 ?_))
   exact RetOb.plain (by rw [← hR];exact ⟨rfl,rfl⟩) (by simp [kD,kf,isI])
 ·simp only [go_sem,TmOK,DM,DMs,CM,CMs,forall_eq,exists_eq_left,Mq,HpOK,LowOK]
  simp [upd,isI,CMs_I,CMs,CM,kf,CMs_bC]
theorem optI0 (c:Cd) (h1:c.vars.length≤1000000) (h2:c.arrays.length≤1000000) (h3:c.list.length≤1000000) (hc:codeOK c=false):DC Tryz.prog 17 [.agg (cdC c)] [] (fun r h=>r = .tup [.agg (cdC ⟨[],[],[]⟩),DB false]∧h=[]):=by
 have hmx:=mx_eq
 have hv:=codeValidG0 c (by omega) (by omega) (by omega) hc
 obtain ⟨vs,ar,l⟩:=c
 simp only [cdC,ints] at hv ⊢
 generalize hR:(fun (r:D) (h:List (Option (List C)))=>r = .tup _∧h=[])=R
 refine dcZ Tryz.func17 ?_
 simp only [go_sem]
 iterate 4 ((try (refine drvZ Tryz.func17 ?_;simp only [go_sem]));((with_reducible and_intros)<;>try exact sd);(try first | refine XK.p hv ok35 ?_ | refine XK.gp hv ok35 ?_))
 exact RetOb.noCode (by rw [← hR];exact ⟨rfl,rfl⟩)
theorem OptR.inv {C D:List In} (h:OptR C D):(optS C=C∧D=C)∨(optS C ≠ C∧OptR (optS C) D):=by
 cases h with
 | done h=>exact .inl ⟨h,rfl⟩
 | step h h'=>exact .inr ⟨h,h'⟩
theorem optI (c:Cd) (D1:List In) (hD:OptR c.list D1) (hc:codeOK c=true):DC Tryz.prog 17 [.agg (cdC c)] [] (fun r h=>r = .tup [.agg (cdC ⟨c.vars,c.arrays,D1⟩),DB true]∧h=[]):=by
 have hmx:=mx_eq
 have hcl:=code_len hc
 have hw:=CtL.wf_of hc
 have hv:=codeValidT c (by omega) (by omega) (by omega) hc
 have how:=cownI c (by omega) (by omega) (by omega)
 have hth:=fun l h3 hw=>threadI ⟨c.vars,c.arrays,l⟩ (by simp only;omega) (by simp only;omega) h3 hw
 have htr:=fun l h3 h0 hw=>trimI ⟨c.vars,c.arrays,l⟩ (by simp only;omega) (by simp only;omega) h3 h0 hw
 have hsm:=fun l l2 h3 b hb=>codeSameV c.vars c.arrays l l2 (by omega) (by omega) h3 b hb
 obtain ⟨vs,ar,l⟩:=c
 simp only at hcl hw how hth htr hsm hD
 simp only [cdC,ints] at hv how hth htr hsm ⊢
 generalize hR:(fun (r:D) (h:List (Option (List C)))=>r = .tup _∧h=[])=R
 refine dcZ Tryz.func17 ?_
 simp only [go_sem]
 iterate 4 ((try (refine drvZ Tryz.func17 ?_;simp only [go_sem]));((with_reducible and_intros)<;>try exact sd);(try first | refine XK.p hv ok35 ?_ | refine XK.gp hv ok35 ?_))
 refine XK.callG [] how ok62 (fun i' x h=>by simp at h) (hbT ()) (fun d h' ⟨_,e⟩=>by subst e;simp) ?_
 rintro _ _ ⟨rfl,rfl⟩ _
 iterate 3 ((try (refine drvZ Tryz.func17 ?_;simp only [go_sem,renCs_I,renCs_in]));((with_reducible and_intros)<;>try exact sd))
 have cmI:∀ {hT hS:Hp} {r:Nat→Option Nat} {fz:List Nat} {k n:Nat} {v:List Int},k ∈ fz→hS k=some (some (v.map I64))→n=v.length→CM hT r hS fz (.isl 1 (v.map fun n=>[I64 n])) (.msl k 1 0 n):=fun hk hh e=>by
  subst e
  simp only [CM]
  refine ⟨⟨trivial,trivial,by simp⟩,hk,by rw [hh,flat_I'],fun x hx=>by obtain ⟨_,_,rfl⟩:=List.mem_map.1 hx;rfl,fun x hx c hc=>by obtain ⟨_,_,rfl⟩:=List.mem_map.1 hx;simp only [List.mem_singleton] at hc;subst hc;rfl⟩
 have cmN:∀ {hT hS:Hp} {r:Nat→Option Nat} {fz:List Nat} {k n:Nat} {v:List In},k ∈ fz→hS k=some (some (inC v))→n=v.length→CM hT r hS fz (.isl 5 (v.map inX)) (.msl k 5 0 n):=fun hk hh e=>by
  subst e
  simp only [CM]
  exact ⟨⟨trivial,trivial,by simp⟩,hk,by rw [hh,in_flat],in_len5 _,in_kf5 _⟩
 refine Go.loopQ (fun _ : List In => [(2, .c (.ptr 64 0)), (4, .c (.ptr 200 0))]) (fun C => [(64, some [.v (.slice none 0 0), .v (.slice none 0 0), .v (.slice none 0 0)]), (200, some [isI vs, isI ar, .isl 5 (C.map inX)])]) 4096
  (fun C=>WfC C∧0<C.length∧C.length≤400∧OptR C D1) (fun C=>optM C) ?_ l (fun j=>if j=200 then some 512 else some j) [448,449,450] _ ⟨hw,by omega,by omega,hD⟩ ?_
 ·rintro C ⟨g1,g2,g3,g4⟩ again
  have hth:=hth C (by omega) g1
  have hlw:=CtL.thL_wf g1
  have hll:=CtL.thL_len C
  have htr:=htr (thL C) (by omega) (by omega) hlw
  obtain ⟨o1,o2,o3⟩:=CtL.opt_wf g1 g2
  rcases OptR.inv g4 with ⟨e,rfl⟩ | ⟨e,g5⟩
  ·have hsm:=hsm (trC2 (thL D1)) D1 (Nat.le_trans (show (optS D1).length≤400 by omega) (by omega)) true ⟨fun _=>e,fun _=>rfl⟩
   have ee:trC2 (thL D1)=D1:=e
   rw [ee] at htr hsm
   refine drvL Tryz.func17 ?_
   simp only [go_sem]
   iterate 5 ((try (refine drvZ Tryz.func17 ?_;simp only [go_sem]));((with_reducible and_intros)<;>try exact sd);(try first | refine XK.p hth ok63 ?_ | refine XK.gp hth ok63 ?_ | refine XK.p htr ok64 ?_ | refine XK.gp htr ok64 ?_ | refine XK.p hsm ok11 ?_ | refine XK.gp hsm ok11 ?_))
   exact RetOb.codeB (by rw [← hR];exact ⟨rfl,rfl⟩)
  ·have hlt:=CtL.optM_lt g1 g2 e
   have hsm:=hsm (trC2 (thL C)) C (by show (optS C).length≤mx;omega) false (Iff.intro (fun h=>Bool.noConfusion h) (fun h=>absurd h e))
   have ee:trC2 (thL C)=optS C:=rfl
   rw [ee] at htr hsm
   generalize hE:optS C=E at *
   refine drvL Tryz.func17 ?_
   simp only [go_sem]
   iterate 6 ((try (refine drvZ Tryz.func17 ?_;simp only [go_sem]));((with_reducible and_intros)<;>try exact sd);(try first | refine XK.p hth ok63 ?_ | refine XK.gp hth ok63 ?_ | refine XK.p htr ok64 ?_ | refine XK.gp htr ok64 ?_ | refine XK.p hsm ok11 ?_ | refine XK.gp hsm ok11 ?_))
   refine again E some [] _ ⟨o1,o2,by omega,g5⟩ hlt ?_
   simp only [go_sem,TmOK,DM,DMs,CM,CMs,forall_eq,exists_eq_left,Mq,HpOK,LowOK]
   simp [CMs,CM,isI,kf]
 ·refine ⟨?_,?_,trivial,?_⟩
  ·simp only [go_sem,TmOK,DM,DMs,CM,CMs,forall_eq,exists_eq_left,Mq,HpOK,LowOK]
  ·refine ⟨?_,?_,trivial⟩
   ·simp [upd,CMs,CM]
   ·refine (show 512 ∉ [448,449,450]∧CMs _ _ _ _ [isI vs,isI ar,.isl 5 (l.map inX)] [.msl 448 1 0 vs.length,.msl 449 1 0 ar.length,.msl 450 5 0 l.length] from ⟨by decide,?_⟩)
    simp only [CMs,isI]
    exact ⟨cmI (by decide) rfl rfl,cmI (by decide) rfl rfl,cmN (by decide) rfl rfl,trivial⟩
  ·simp
open CtL (In Cd tgt aim WfC atC codeOK Rch rchL folM)
def nxM (C:List In) (i:Nat):List Nat:=if (atC C i).op=13 then [] else if (atC C i).op=8 then [(atC C i).a.toNat] else if (atC C i).op=9∨(atC C i).op=10 then [i+1,(atC C i).b.toNat] else [i+1]
theorem nxM_mem {C:List In} (hw:WfC C) {i k:Nat} (hi:i<C.length):k ∈ nxM C i ↔ k ∈ folM C i:=by
 have h1:=(hw i hi).1
 unfold nxM CtL.folM
 by_cases h13:(atC C i).op=13
 ·have ht:tgt (atC C i) = -1:=CtL.tgt_no (by omega) (by omega) (by omega)
  rw [if_pos h13,ht];simp [h13]
 ·rw [if_neg h13]
  by_cases h8:(atC C i).op=8
  ·have h1:=h1 (.inl h8)
   have ht:tgt (atC C i)=(atC C i).a:=by simp [tgt,h8]
   rw [if_pos h8,if_pos h1.1,ht];simp [h8]
  ·rw [if_neg h8]
   by_cases h9:(atC C i).op=9∨(atC C i).op=10
   ·have h1:=h1 (.inr h9)
    have ht:tgt (atC C i)=(atC C i).b:=by simp [tgt,h8,h9]
    rw [if_pos h9,if_pos h1.1,ht,if_pos ⟨h8,h13⟩]
    simp [or_comm]
   ·have ht:tgt (atC C i) = -1:=CtL.tgt_no h8 (fun h=>h9 (.inl h)) (fun h=>h9 (.inr h))
    rw [if_neg h9,ht,if_neg (by omega),if_pos ⟨h8,h13⟩];simp
theorem nxM_len (C:List In) (i:Nat):(nxM C i).length≤2:=by
 unfold nxM
 split
 ·simp
 ·split
  ·simp
  ·split<;>simp
theorem nextS (c:Cd) (hl:c.list.length≤1000000) (hw:WfC c.list) (i:Nat) (hi:i<c.list.length):DC Tryz.prog 150 [.agg (cdC c),.c (I64 i)] [] (fun r h=>r = .c (.msl 0 1 0 (nxM c.list i).length)∧h=[some ((nI (nxM c.list i)).map I64)]):=by
 have hmx:=mx_eq
 obtain ⟨vs,ar,l⟩:=c
 simp only at hl hi hw
 obtain ⟨x,hx⟩:∃ x,l[i]? = some x:=⟨l[i],by simp [hi]⟩
 have hat:=CtL.atC_get hx
 have h1:=(hw i hi).1
 rw [hat] at h1
 have ret:∀ (L:List Nat) (K n:Nat) (hp:Hp),nxM l i=L→hp K=some (some ((nI L).map I64))→n=L.length→RetOb 0 (fun r h=>r = .c (.msl 0 1 0 (nxM l i).length)∧h=[some ((nI (nxM l i)).map I64)]) (.c (.msl K 1 0 n)) hp:=by
  rintro L K n hp rfl hk rfl
  refine RetOb.ofQ (fun j=>if j=0 then some K else none) [] _ _ ?_ ⟨rfl,rfl⟩ (by simp)
  simp [enumL,hOf,DM,CM,HpOK,LowOK,upd,hk,CMs_I]
 have hfo:nxM l i=if x.op=13 then [] else if x.op=8 then [x.a.toNat] else if x.op=9∨x.op=10 then [i+1,x.b.toNat] else [i+1]:=by unfold nxM;rw [hat]
 generalize hR:(fun (r:D) (h:List (Option (List C)))=>r = .c (.msl 0 1 0 (nxM l i).length)∧h=[some ((nI (nxM l i)).map I64)])=R at ret ⊢
 clear hR
 obtain ⟨op,xa,xb,xc,xd⟩:=x
 simp only at hfo h1
 simp only [cdC,ints]
 by_cases h13:op=13
 ·subst h13
  rw [if_pos rfl] at hfo
  refine dcZ Tryz.func150 ?_
  simp only [go_sem,hx,inX,hi]
  iterate 4 ((try (refine drvZ Tryz.func150 ?_;simp only [go_sem,hx,inX,hi]));((with_reducible and_intros)<;>try exact sd))
  exact ret [] _ _ _ hfo rfl rfl
 ·have g13:(op == 13)=false:=by simp [h13]
  rw [if_neg h13] at hfo
  by_cases h8:op=8
  ·subst h8
   rw [if_pos rfl] at hfo
   simp only [tgt,if_true] at h1
   obtain ⟨t0,t1⟩:=h1 (by simp)
   obtain ⟨k,rfl⟩:∃ k:Nat,xa=k:=⟨xa.toNat,by omega⟩
   rw [Int.toNat_natCast] at hfo
   refine dcZ Tryz.func150 ?_
   simp only [go_sem,hx,inX,hi]
   iterate 4 ((try (refine drvZ Tryz.func150 ?_;simp only [go_sem,hx,inX,hi]));((with_reducible and_intros)<;>try exact sd))
   exact ret [k] _ _ _ hfo rfl rfl
  ·have g8:(op == 8)=false:=by simp [h8]
   rw [if_neg h8] at hfo
   by_cases h9:op=9∨op=10
   ·rw [if_pos h9] at hfo
    have h1:=h1 (.inr h9)
    have ht:tgt ⟨op,xa,xb,xc,xd⟩=xb:=by simp [tgt,h8,h9]
    rw [ht] at h1
    obtain ⟨k,rfl⟩:∃ k:Nat,xb=k:=⟨xb.toNat,by omega⟩
    rw [Int.toNat_natCast] at hfo
    rcases h9 with rfl | rfl
    ·refine dcZ Tryz.func150 ?_
     simp only [go_sem,hx,inX,hi]
     iterate 4 ((try (refine drvZ Tryz.func150 ?_;simp only [go_sem,hx,inX,hi]));((with_reducible and_intros)<;>try exact sd))
     exact ret [i+1,k] _ _ _ hfo rfl rfl
    ·refine dcZ Tryz.func150 ?_
     simp only [go_sem,hx,inX,hi]
     iterate 4 ((try (refine drvZ Tryz.func150 ?_;simp only [go_sem,hx,inX,hi]));((with_reducible and_intros)<;>try exact sd))
     exact ret [i+1,k] _ _ _ hfo rfl rfl
   ·have g9:(op == 9)=false:=by simp;omega
    have g10:(op == 10)=false:=by simp;omega
    have n9:¬ op=9:=by omega
    have n10:¬ op=10:=by omega
    rw [if_neg h9] at hfo
    refine dcZ Tryz.func150 ?_
    simp only [go_sem,hx,inX,hi,g13,g8]
    iterate 4 ((try (refine drvZ Tryz.func150 ?_;simp only [go_sem,hx,inX,hi,g13,g8,g9,g10,n9,n10,h8,h13]));((with_reducible and_intros)<;>try exact sd))
    exact ret [i+1] _ _ _ hfo rfl rfl
structure BInv (l : List In) (S : List Bool) (Q : List Nat) (i : Nat) : Prop where
 len:S.length=l.length
 q:∀ k ∈ Q,k<l.length∧Rch l k∧S[k]? = some true
 s:∀ j,S[j]? = some true→j ∈ Q
 cl:∀ (m k:Nat),m<i→Q[m]? = some k→∀ u ∈ folM l k,S[u]? = some true
 b:Q.length+ffB S=l.length
 i:i≤Q.length
theorem BInv.fin {l:List In} {S:List Bool} {Q:List Nat} (hw:WfC l) (h0:0<l.length) (hz:S[0]? = some true) (h:BInv l S Q Q.length):S=rchL l :=
 CtL.rchL_of hw h0 h.len (fun j hj=>(h.q j (h.s j hj)).2.1) hz fun j hj u hu=>by
  obtain ⟨m,hm⟩:=List.getElem?_of_mem (h.s j hj)
  exact h.cl m j (List.getElem?_eq_some_iff.1 hm).1 hm u hu
theorem BInv.next {l:List In} {S:List Bool} {Q:List Nat} {i q:Nat} (h:BInv l S Q i) (hq:Q[i]? = some q) (hf:∀ u ∈ folM l q,S[u]? = some true):BInv l S Q (i+1) :=
 ⟨h.len,h.q,h.s,fun m k hm hk u hu=>by
  by_cases e:m=i
  ·subst e;rw [hq] at hk;simp only [Option.some.injEq] at hk;subst hk;exact hf u hu
  ·exact h.cl m k (by omega) hk u hu,h.b,(List.getElem?_eq_some_iff.1 hq).1⟩
theorem BInv.push {l:List In} {S:List Bool} {Q:List Nat} {i u:Nat} (h:BInv l S Q i) (hu:u<l.length) (hr:Rch l u) (hs:S[u]? = some false):BInv l (S.set u true) (Q++[u]) i:=by
 have hget:∀ j,S[j]? = some true→(S.set u true)[j]? = some true:=fun j hj=>CtL.set_true hj
 have hlen:=h.len
 refine ⟨by simp [hlen],fun k hk=>?_,fun j hj=>?_,fun m k hm hk v hv=>hget v ?_,?_,?_⟩
 ·rcases List.mem_append.1 hk with hk | hk
  ·obtain ⟨g1,g2,g3⟩:=h.q k hk
   exact ⟨g1,g2,hget k g3⟩
  ·simp at hk;subst hk
   exact ⟨hu,hr,List.getElem?_set_self (by omega)⟩
 ·rw [List.getElem?_set] at hj
  split at hj
  ·rename_i e;subst e;simp
  ·exact List.mem_append_left _ (h.s j hj)
 ·rw [List.getElem?_append_left (by have:=h.i;omega)] at hk
  exact h.cl m k hm hk v hv
 ·have:=ffB_set hs
  have:=h.b
  simp;omega
 ·have:=h.i;simp;omega
theorem reachS (c:Cd) (hl:c.list.length≤1000) (h0:0<c.list.length) (hw:WfC c.list):DC Tryz.prog 113 [.agg (cdC c)] [] (fun r h=>r = .c (.msl 0 1 0 c.list.length)∧h=[some (boolsC (rchL c.list))]):=by
 have hmx:=mx_eq
 have hfo:=fun i hi=>nextS c (by omega) hw i hi
 generalize hR:(fun (r:D) (h:List (Option (List C)))=>r = .c (.msl 0 1 0 c.list.length)∧h=[some (boolsC (rchL c.list))])=R
 obtain ⟨vs,ar,l⟩:=c
 simp only at hl h0 hw hR hfo
 simp only [cdC,ints] at hfo ⊢
 obtain ⟨S0,hS0⟩:∃ S0,S0=(List.replicate l.length false).set 0 true:=⟨_,rfl⟩
 have hz0:S0[0]? = some true:=by rw [hS0];exact List.getElem?_set_self (by simpa using h0)
 have hset:(boolsC (List.replicate l.length false)).set 0 (.v (.bool true))=boolsC S0:=by rw [boolsC_set,hS0]
 have hbl0:(boolsC (List.replicate l.length false)).length=l.length:=by rw [boolsC_len];simp
 have hi0:BInv l S0 [0] 0:=by
  subst hS0
  refine ⟨by simp,fun k hk=>?_,fun j hj=>?_,fun m k hm=>by omega,?_,by simp⟩
  ·simp at hk;subst hk;exact ⟨h0,.start,hz0⟩
  ·rw [List.getElem?_set] at hj
   split at hj
   ·rename_i e;subst e;simp
   ·rw [List.getElem?_replicate] at hj;split at hj<;>simp at hj
  ·have hx:(List.replicate l.length false)[0]? = some false:=by rw [List.getElem?_replicate,if_pos h0]
   have h1:=ffB_set hx
   have h2:ffB (List.replicate l.length false)=l.length:=by simp [ffB,List.countP_replicate]
   simp only [List.length_cons,List.length_nil];omega
 refine dcZ Tryz.func113 ?_
 simp only [go_sem,List.length_map,boolsC_rep,hset,hbl0,h0]
 iterate 5 ((try (refine drvZ Tryz.func113 ?_;simp only [go_sem,List.length_map,boolsC_rep,hset,hbl0,h0]));((with_reducible and_intros)<;>try exact sd))
 refine Go.loopQ (fun x : List Bool × List Nat × Nat => [(1, .c (.ptr 0 0)), (2, .c (.v (.slice none 0 0))), (3, .c (.msl 300 1 0 l.length)), (4, .c (.msl 400 1 0 x.2.1.length)), (5, DI .i64 x.2.2)])
  (fun x=>[(0,some [isI vs,isI ar,.isl 5 (l.map inX)]),(300,some (boolsC x.1)),(400,some ((nI x.2.1).map I64))]) 4096 (fun x=>BInv l x.1 x.2.1 x.2.2∧x.1[0]? = some true) (fun x=>l.length - x.2.2) ?_ (S0,[0],0) (fun j=>if j=300 then some 320 else if j=400 then some 640 else some j) [] _ ⟨hi0,hz0⟩ ?_
 ·rintro ⟨S,Q,i⟩ ⟨hv,hz⟩ again
  simp only at hv hz again ⊢
  have hQl:=nI_len Q
  have hb:=hv.b
  rcases Nat.lt_or_ge i Q.length with hlt | hge
  ·obtain ⟨q,hq⟩:∃ q,Q[i]? = some q:=⟨Q[i],by simp [hlt]⟩
   obtain ⟨hq1,hq2,_⟩:=hv.q q (List.mem_of_getElem? hq)
   have hqx:((nI Q).map I64)[i]? = some (I64 (q:Nat)):=by rw [List.getElem?_map,nI,List.getElem?_map,hq];rfl
   have hqy:(nI Q)[i]? = some (q:Int):=by rw [nI,List.getElem?_map,hq];rfl
   have hfq:=hfo q hq1
   have hFm:=fun u=>nxM_mem hw hq1 (k:=u)
   have hF2:=nxM_len l q
   have hFl:=nI_len (nxM l q)
   generalize nxM l q=F at *
   refine drvL Tryz.func113 ?_
   simp only [go_sem,hlt]
   iterate 4 ((try (refine drvZ Tryz.func113 ?_;simp only [go_sem,hlt,hqx,hqy,hQl,List.length_map]));((with_reducible and_intros)<;>try exact sd))
   refine XK.callG [] hfq ok150 (fun i' x h=>by simp at h) (hbT ()) (fun d h' ⟨_,e⟩=>by subst e;simp) ?_ (fun _=>⟨by kernel_rfl,_,_,⟨rfl,rfl⟩,by simp⟩)
   rintro _ _ ⟨rfl,rfl⟩ _
   iterate 3 ((try (refine drvZ Tryz.func113 ?_;simp only [go_sem,renCs_I]));((with_reducible and_intros)<;>try exact sd))
   refine Go.loopQ (fun x : List Bool × List Nat × Nat => [(1, .c (.ptr 0 0)), (2, .c (.v (.slice none 0 0))), (3, .c (.msl 300 1 0 l.length)), (4, .c (.msl 400 1 0 x.2.1.length)), (5, DI .i64 i), (6, .c (.msl 500 1 0 F.length)), (7, DI .i64 x.2.2)])
    (fun x=>[(0,some [isI vs,isI ar,.isl 5 (l.map inX)]),(300,some (boolsC x.1)),(400,some ((nI x.2.1).map I64)),(500,some ((nI F).map I64))]) 8192 (fun x=>BInv l x.1 x.2.1 i∧x.1[0]? = some true∧x.2.1[i]? = some q∧x.2.2≤F.length∧∀ m u,m<x.2.2→F[m]? = some u→x.1[u]? = some true) (fun x=>F.length - x.2.2) ?_ (S,Q,0) (fun j=>if j=500 then some 4672 else some j) [] _ ⟨hv,hz,hq,Nat.zero_le _,fun m u hm=>by simp at hm⟩ ?_
   ·clear hq hqx hqy hb hQl hlt
    rintro ⟨S1,Q1,k⟩ ⟨iv,iz,iq,ik,im⟩ again2
    simp only at iv iz iq ik im again2 ⊢
    have hQl:=nI_len Q1
    have hb:=iv.b
    have hil:i<Q1.length:=(List.getElem?_eq_some_iff.1 iq).1
    have hbl:=boolsC_len S1
    have hsl:=iv.len
    rcases Nat.lt_or_ge k F.length with hkl | hge
    ·obtain ⟨u,hu⟩:∃ u,F[k]? = some u:=⟨F[k],by simp [hkl]⟩
     have huf:=(hFm u).1 (List.mem_of_getElem? hu)
     have hul:=CtL.follow_lt hw hq1 huf
     have hux:((nI F).map I64)[k]? = some (I64 (u:Nat)):=by rw [List.getElem?_map,nI,List.getElem?_map,hu];rfl
     have huy:(nI F)[k]? = some (u:Int):=by rw [nI,List.getElem?_map,hu];rfl
     have h00:(0:Int)≤(u:Int):=by omega
     obtain ⟨b,hsb⟩:∃ b,S1[u]? = some b:=⟨S1[u]'(by omega),List.getElem?_eq_getElem (by omega)⟩
     have hsc:=bC_at hsb
     cases b with
     | true =>
      refine drvL Tryz.func113 ?_
      simp only [go_sem,hkl,hux,huy,hsc]
      iterate 5 ((try (refine drvZ Tryz.func113 ?_;simp only [go_sem,hkl,hux,huy,hsc,hFl,hbl,hsl,hul,List.length_map]));((with_reducible and_intros)<;>try exact sd))
      refine again2 (S1,Q1,k+1) some [] _ ⟨iv,iz,iq,hkl,fun m v hm hv=>?_⟩ (by simp only;omega) ?_
      ·by_cases e:m=k
       ·subst e;rw [hu] at hv;simp only [Option.some.injEq] at hv;subst hv;exact hsb
       ·exact im m v (by simp only at hm;omega) hv
      simp only [go_sem,TmOK,DM,DMs,CM,CMs,forall_eq,exists_eq_left,Mq,HpOK,LowOK]
      simp [upd,isI,CMs_I,CMs,CM,kf,CMs_bC]
     | false =>
      have hset:(boolsC S1).set u (.v (.bool true))=boolsC (S1.set u true):=boolsC_set _ _ _
      have hp:=iv.push hul (.step hq2 huf) hsb
      have hne:u ≠ 0:=fun e=>by subst e;rw [iz] at hsb;simp at hsb
      refine drvL Tryz.func113 ?_
      simp only [go_sem,hkl,hux,huy,hsc]
      iterate 7 ((try (refine drvZ Tryz.func113 ?_;simp only [go_sem,hkl,hux,huy,hsc,hFl,hbl,hsl,hul,hQl,List.length_map]));((with_reducible and_intros)<;>try exact sd))
      refine again2 (S1.set u true,Q1++[u],k+1) (fun j=>if j=400 then some 9792 else some j) [] _ ⟨hp,by simp only;rw [List.getElem?_set,if_neg hne];exact iz,by simp only;rw [List.getElem?_append_left (by omega)];exact iq,hkl,fun m v hm hv=>?_⟩ (by simp only;omega) ?_
      ·by_cases e:m=k
       ·subst e;rw [hu] at hv;simp only [Option.some.injEq] at hv;subst hv;exact List.getElem?_set_self (by omega)
       ·exact CtL.set_true (im m v (by simp only at hm;omega) hv)
      simp only [go_sem,TmOK,DM,DMs,CM,CMs,forall_eq,exists_eq_left,Mq,HpOK,LowOK,hset]
      simp [upd,isI,CMs_I,CMs,CM,kf,CMs_bC,nI_app,I_app]
      first | done | exact CMs.kf (kf_app (I_kf _) (I_kf _))
    ·have hn:¬ k<F.length:=by omega
     have he:k=F.length:=by omega
     subst he
     refine drvL Tryz.func113 ?_
     simp only [go_sem,hn]
     iterate 4 ((try (refine drvZ Tryz.func113 ?_;simp only [go_sem,hn]));((with_reducible and_intros)<;>try exact sd))
     have hnx:BInv l S1 Q1 (i+1):=iv.next iq fun u hu=>by
      obtain ⟨m,hm⟩:=List.getElem?_of_mem ((hFm u).2 hu)
      exact im m u (List.getElem?_eq_some_iff.1 hm).1 hm
     refine again (S1,Q1,i+1) some [] _ ⟨hnx,iz⟩ (by simp only;omega) ?_
     simp only [go_sem,TmOK,DM,DMs,CM,CMs,forall_eq,exists_eq_left,Mq,HpOK,LowOK]
     simp [upd,isI,CMs_I,CMs,CM,kf,CMs_bC]
   ·simp only [go_sem,TmOK,DM,DMs,CM,CMs,forall_eq,exists_eq_left,Mq,HpOK,LowOK]
    simp [upd,isI,CMs_I,CMs,CM,kf,CMs_bC]
  ·have hn:¬ i<Q.length:=by omega
   have hi2:i=Q.length:=by have:=hv.i;omega
   subst hi2
   have hS:=hv.fin hw h0 hz
   refine drvL Tryz.func113 ?_
   simp only [go_sem,hn]
   iterate 4 ((try (refine drvZ Tryz.func113 ?_;simp only [go_sem,hn]));((with_reducible and_intros)<;>try exact sd))
   rw [← hR,hS]
   exact boolsKeep (k:=300) (by simp [upd]) (CtL.rchL_len l)
 ·simp only [go_sem,TmOK,DM,DMs,CM,CMs,forall_eq,exists_eq_left,Mq,HpOK,LowOK]
  simp [upd,isI,CMs_I,CMs,CM,kf,CMs_bC,nI]
open CtL (In Cd tgt aim WfC atC codeOK thL thA finJ chase)
theorem l8CopyS (c:Cd) (h1:c.vars.length≤1000000) (h2:c.arrays.length≤1000000) (h3:c.list.length≤1000000):DC Tryz.prog 114 [.agg (cdC c)] [] (fun r h=>r = .agg [.msl 0 1 0 c.vars.length,.msl 1 1 0 c.arrays.length,.msl 2 5 0 c.list.length]∧h=[some (c.vars.map I64),some (c.arrays.map I64),some (inC c.list)]):=by
 have hmx:=mx_eq
 obtain ⟨vs,ar,l⟩:=c
 simp only at h1 h2 h3
 simp only [cdC,ints]
 generalize hR:(fun (r:D) (h:List (Option (List C)))=>r = .agg _∧h=_)=R
 have hfi:(List.map inX l).flatten=inC l:=in_flat l
 have hfl:=inC_len l
 refine dcZ Tryz.func114 ?_
 simp only [go_sem,List.length_map,flat_I',hfi,hfl]
 iterate 6 ((try (refine drvZ Tryz.func114 ?_;simp only [go_sem,List.length_map,flat_I',hfi,hfl]));((with_reducible and_intros)<;>try exact sd))
 refine RetOb.ofQ (fun j=>if j=0 then some 320 else if j=1 then some 576 else if j=2 then some 832 else none) [] (.agg [.msl 0 1 0 vs.length,.msl 1 1 0 ar.length,.msl 2 5 0 l.length]) [some (vs.map I64),some (ar.map I64),some (inC l)] ?_ (by rw [← hR];exact ⟨rfl,rfl⟩) (by simp)
 simp [enumL,hOf,DM,CM,CMs,HpOK,LowOK,upd,CMs_I,CMs_in]
theorem l8FinalS (c:Cd) (h3:c.list.length≤1000000) (hw:WfC c.list) (k:Nat) (hk:k<c.list.length):DC Tryz.prog 115 [.agg (cdC c),DI .i64 k] [] (fun r h=>r=DI .i64 (finJ c.list k:Nat)∧h=[]):=by
 have hmx:=mx_eq
 have ret:∀ (m:Nat) (hp:Hp),m=finJ c.list k→RetOb 0 (fun r h=>r=DI .i64 (finJ c.list k:Nat)∧h=[]) (DI .i64 m) hp:=fun m hp e=>by subst e;exact RetOb.plain (d:=DI .i64 _) ⟨rfl,rfl⟩ rfl
 generalize hR:(fun (r:D) (h:List (Option (List C)))=>r=DI .i64 (finJ c.list k:Nat)∧h=[])=R at ret ⊢
 clear hR
 obtain ⟨vs,ar,l⟩:=c
 simp only at h3 hw hk ret
 simp only [cdC,ints]
 refine dcZ Tryz.func115 ?_
 simp only [go_sem]
 iterate 4 ((try (refine drvZ Tryz.func115 ?_;simp only [go_sem,List.length_map]));((with_reducible and_intros)<;>try exact sd))
 refine Go.loopQ (fun nn : Nat => [(1, DI .i64 k), (2, .c (.ptr 0 0)), (5, DI .i64 (chase l nn k : Nat)), (6, DI .i64 nn)])
  (fun nn=>[(0,some [isI vs,isI ar,.isl 5 (l.map inX)])]) 4096 (fun nn=>nn≤l.length) (fun nn=>l.length - nn) ?_ 0 some [] _ (Nat.zero_le _) ?_
 ·intro nn hnn again
  have hcl:=CtL.chase_lt hw nn k hk
  obtain ⟨y,hyx⟩:∃ y,l[chase l nn k]? = some y:=⟨l[chase l nn k],by simp [hcl]⟩
  have hay:=CtL.atC_get hyx
  have hcs:=CtL.chase_succ l nn k
  have hst:=CtL.chase_stop l nn (l.length - nn) k
  rw [Nat.add_sub_cancel' hnn] at hst
  have hya:=(hw _ hcl).1
  rw [hay] at hcs hst hya
  obtain ⟨zo,zA,zb,zc,zd⟩:=y
  simp only at hcs hst hya
  by_cases h8:zo=8
  ·subst h8
   have hcs:=hcs rfl
   obtain ⟨u0,u1⟩:=hya (.inl rfl)
   simp only [tgt,if_true] at u0 u1
   by_cases hq:nn=l.length
   ·subst hq
    have FE:finJ l k=k:=by rw [CtL.finJ,hay,if_pos rfl]
    have hn:¬ l.length<l.length:=by omega
    generalize chase l l.length k=cuR at *
    have hzc:(0:Int)≤(cuR:Int):=by omega
    refine drvL Tryz.func115 ?_
    simp only [go_sem,hzc,hyx,hcl,inX,hn]
    iterate 6 ((try (refine drvZ Tryz.func115 ?_;simp only [go_sem,hzc,hyx,hcl,inX,hn,beq_self_eq_true,List.length_map]));((with_reducible and_intros)<;>try exact sd))
    exact ret _ _ FE.symm
   ·have hq2:nn<l.length:=by omega
    generalize chase l nn k=cuR at *
    have hzc:(0:Int)≤(cuR:Int):=by omega
    obtain ⟨a,rfl⟩:∃ a:Nat,zA=a:=⟨zA.toNat,by omega⟩
    rw [Int.toNat_natCast] at hcs
    refine drvL Tryz.func115 ?_
    simp only [go_sem,hzc,hyx,hcl,inX,hq2]
    iterate 6 ((try (refine drvZ Tryz.func115 ?_;simp only [go_sem,hzc,hyx,hcl,inX,hq2,beq_self_eq_true,List.length_map]));((with_reducible and_intros)<;>try exact sd))
    refine again (nn+1) some [] _ (by omega) (by omega) ?_
    rw [hcs]
    simp only [go_sem,TmOK,DM,DMs,CM,CMs,forall_eq,exists_eq_left,Mq,HpOK,LowOK]
    simp [CMs_I,CMs_in,CMs,CM,kf]
  ·have g8:(zo == 8)=false:=by simp [h8]
   have FE:finJ l k=chase l nn k:=by
    have e:=hst h8
    rw [CtL.finJ,e,hay,if_neg h8]
   generalize chase l nn k=cuR at *
   have hzc:(0:Int)≤(cuR:Int):=by omega
   by_cases hq:nn<l.length
   ·refine drvL Tryz.func115 ?_
    simp only [go_sem,hzc,hyx,hcl,inX,hq,g8]
    iterate 6 ((try (refine drvZ Tryz.func115 ?_;simp only [go_sem,hzc,hyx,hcl,inX,hq,g8,h8,List.length_map]));((with_reducible and_intros)<;>try exact sd))
    exact ret _ _ FE.symm
   ·refine drvL Tryz.func115 ?_
    simp only [go_sem,hzc,hyx,hcl,inX,hq,g8]
    iterate 6 ((try (refine drvZ Tryz.func115 ?_;simp only [go_sem,hzc,hyx,hcl,inX,hq,g8,h8,List.length_map]));((with_reducible and_intros)<;>try exact sd))
    exact ret _ _ FE.symm
 ·simp only [go_sem,TmOK,DM,DMs,CM,CMs,forall_eq,exists_eq_left,Mq,HpOK,LowOK]
  simp [upd,isI,CMs_I,CMs,CM,kf,CtL.chase]
open CtL (In Cd tgt aim WfC atC codeOK thL thA finJ chase)
theorem threadS (c:Cd) (h1:c.vars.length≤1000000) (h2:c.arrays.length≤1000000) (h3:c.list.length≤1000000) (hw:WfC c.list):DC Tryz.prog 66 [.agg (cdC c)] [] (fun r h=>r = .agg (cdC ⟨c.vars,c.arrays,thL c.list⟩)∧h=[]):=by
 have hmx:=mx_eq
 have k1:=l8CopyS c h1 h2 h3
 have hfn:=fun k hk=>l8FinalS c h3 hw k hk
 obtain ⟨vs,ar,l⟩:=c
 simp only at h1 h2 h3 hw k1 hfn
 simp only [cdC,ints] at k1 hfn ⊢
 generalize hR:(fun (r:D) (h:List (Option (List C)))=>r = .agg _∧h=_)=R
 refine dcZ Tryz.func66 ?_
 simp only [go_sem]
 ((try (refine drvZ Tryz.func66 ?_;simp only [go_sem]));((with_reducible and_intros)<;>try exact sd))
 refine XK.callG [] k1 ok114 (fun i' x h=>by simp at h) (hbT ()) (fun d h' ⟨_,e⟩=>by subst e;simp) ?_
 rintro _ _ ⟨rfl,rfl⟩ _
 iterate 3 ((try (refine drvZ Tryz.func66 ?_;simp only [go_sem,renCs_I,renCs_in,List.length_map]));((with_reducible and_intros)<;>try exact sd))
 refine Go.loopQ (fun i : Nat => [(1, .c (.ptr 0 0)), (2, .c (.ptr 64 0)), (3, .c (.ptr 256 0)), (4, DI .i64 i)])
  (fun i=>[(0,some [isI vs,isI ar,.isl 5 (l.map inX)]),(64,some [.v (.slice none 0 0),.v (.slice none 0 0),.v (.slice none 0 0)]),(256,some [.msl 192 1 0 vs.length,.msl 193 1 0 ar.length,.msl 194 5 0 l.length]),(192,some (vs.map I64)),(193,some (ar.map I64)),(194,some (inC (thK l i)))]) 4096 (fun i=>i≤l.length) (fun i=>l.length - i) ?_ 0 some [] _ (Nat.zero_le _) ?_
 ·intro i hi again
  rcases Nat.lt_or_ge i l.length with hlt | hge
  ·obtain ⟨x,hx⟩:∃ x,l[i]? = some x:=⟨l[i],by simp [hlt]⟩
   have hat:=CtL.atC_get hx
   have htg:=tgtS x
   have hto:=fun t ho=>aimS x t ho
   obtain ⟨w1,w2⟩:=hw i hlt
   rw [hat] at w1 w2
   have hkx:(thK l i)[i]? = some x:=by
    rw [thK,List.getElem?_append_right (by simp;omega),List.length_map,List.length_take,Nat.min_eq_left hi,Nat.sub_self,List.getElem?_drop,Nat.add_zero];exact hx
   have hks:(thK l i).set i (thA l x)=thK l (i+1):=by
    have hd:l.drop i=x :: l.drop (i+1):=by rw [← List.getElem_cons_drop hlt,(List.getElem?_eq_some_iff.1 hx).2]
    have:=snoc_set ((l.take i).map (thA l)) (l.drop (i+1)) x (thA l x)
    rw [List.length_map,List.length_take,Nat.min_eq_left hi] at this
    rw [thK,hd,this,thK,List.take_add_one,hx,List.map_append]
    simp
   have hput:=fun y=>inC_put hkx y
   have hlk:(inC (thK l i)).length=l.length * 5:=by rw [inC_len,thK_len hi]
   have hthA:thA l x=if 0≤tgt x then aim x (finJ l (tgt x).toNat) else x:=rfl
   obtain ⟨op,xa,xb,xc,xd⟩:=x
   unfold inX at htg hto
   have tgo:tgt ⟨op,xa,xb,xc,xd⟩ ≠ -1→op=8∨op=9∨op=10:=fun h=>by
    by_cases h8:op=8
    ·exact .inl h8
    ·by_cases h9:op=9
     ·exact .inr (.inl h9)
     ·by_cases h10:op=10
      ·exact .inr (.inr h10)
      ·exact absurd (CtL.tgt_no (x:=⟨op,xa,xb,xc,xd⟩) h8 h9 h10) h
   have tng:¬ (op=8∨op=9∨op=10)→tgt ⟨op,xa,xb,xc,xd⟩ = -1:=fun h=>CtL.tgt_no (x:=⟨op,xa,xb,xc,xd⟩) (fun e=>h (.inl e)) (fun e=>h (.inr (.inl e))) (fun e=>h (.inr (.inr e)))
   simp only at w1 w2 hto
   generalize tgt ⟨op,xa,xb,xc,xd⟩=t at *
   by_cases ht:0≤t
   ·obtain ⟨k,rfl⟩:∃ k:Nat,t=k:=⟨t.toNat,by omega⟩
    rw [if_pos ht,Int.toNat_natCast] at hthA
    have ho:=tgo (by omega)
    have hk:k<l.length:=by have:=(w1 ho).2;rwa [Int.toNat_natCast] at this
    have hfn:=hfn k hk
    have hto:=hto (finJ l k:Nat) ho
    obtain ⟨y,hy⟩:∃ y,aim ⟨op,xa,xb,xc,xd⟩ (finJ l k:Nat)=y:=⟨_,rfl⟩
    rw [hy] at hto hthA
    have hput:=hput y
    have hks2:=hks
    rw [hthA] at hks2
    rw [hks2] at hput
    generalize finJ l k=fk at *
    obtain ⟨yo,ya,yb,yc,yd⟩:=y
    simp only [putCells,inX] at hput
    simp only [inX] at hto
    refine drvL Tryz.func66 ?_
    simp only [go_sem,hx,inX,hlt]
    iterate 8 ((try (refine drvZ Tryz.func66 ?_;simp only [go_sem,hx,inX,hlt,ht,hlk,hput,List.length_map,thK_len hi]));((with_reducible and_intros)<;>try exact sd);(try first | refine XK.p htg ok43 ?_ | refine XK.gp htg ok43 ?_ | refine XK.p hfn ok115 ?_ | refine XK.gp hfn ok115 ?_ | refine XK.p hto ok44 ?_ | refine XK.gp hto ok44 ?_))
    refine again (i+1) some [] _ hlt (by omega) ?_
    simp only [go_sem,TmOK,DM,DMs,CM,CMs,forall_eq,exists_eq_left,Mq,HpOK,LowOK]
    simp [CMs_I,CMs_in,CMs,CM]
   ·rw [if_neg ht] at hthA
    have hsm:thK l (i+1)=thK l i:=by rw [← hks,hthA];exact set_self hkx
    refine drvL Tryz.func66 ?_
    simp only [go_sem,hx,inX,hlt]
    iterate 4 ((try (refine drvZ Tryz.func66 ?_;simp only [go_sem,hx,inX,hlt,ht]));((with_reducible and_intros)<;>try exact sd);(try first | refine XK.p htg ok43 ?_ | refine XK.gp htg ok43 ?_))
    refine again (i+1) some [] _ hlt (by omega) ?_
    rw [hsm]
    simp only [go_sem,TmOK,DM,DMs,CM,CMs,forall_eq,exists_eq_left,Mq,HpOK,LowOK]
    simp [CMs_I,CMs_in,CMs,CM]
  ·have hn:¬ i<l.length:=by omega
   obtain rfl:i=l.length:=by omega
   refine drvL Tryz.func66 ?_
   simp only [go_sem,hn]
   iterate 3 ((try (refine drvZ Tryz.func66 ?_;simp only [go_sem,hn]));((with_reducible and_intros)<;>try exact sd))
   exact RetOb.cdA (L:=thL l) (by rw [← hR];exact ⟨rfl,rfl⟩) rfl rfl (by rw [← thK_end];rfl) rfl rfl (by rw [CtL.thL_len])
 ·simp only [go_sem,TmOK,DM,DMs,CM,CMs,forall_eq,exists_eq_left,Mq,HpOK,LowOK]
  simp [upd,isI,CMs_I,CMs,CM,kf,thK,CMs_in]
end Go.Proofs.YtbknljofedfpjaaGreat.CtD
