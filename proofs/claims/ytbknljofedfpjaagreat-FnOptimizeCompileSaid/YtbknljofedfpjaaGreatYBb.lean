/- Contracts of functions of the program, one behind the other, as plain data: what each call returns and which blocks it leaves. -/
import Derived.Test.YtbknljofedfpjaaGreatYFacts
import Derived.Test.YtbknljofedfpjaaGreatYAj
import Derived.Test.YtbknljofedfpjaaGreatYAk
import Derived.Test.YtbknljofedfpjaaGreatYAm
import Derived.Test.YtbknljofedfpjaaGreatYAq
import Derived.Test.YtbknljofedfpjaaGreatYAr
import Derived.Test.YtbknljofedfpjaaGreatYAs
import Derived.Test.YtbknljofedfpjaaGreatYAt
import Derived.Test.YtbknljofedfpjaaGreatYAw
import Derived.Test.YtbknljofedfpjaaGreatYAy
import Derived.Test.YtbknljofedfpjaaGreatYAz
import Derived.Test.YtbknljofedfpjaaGreatYBa
import Derived.Test.YtbknljofedfpjaaGreatYAv
import Derived.Test.YtbknljofedfpjaaGreatYAx
import Derived.Test.YtbknljofedfpjaaGreatYAl
import Derived.Test.YtbknljofedfpjaaGreatYAo
import Derived.Test.YtbknljofedfpjaaGreatYAu
set_option linter.unusedVariables false
set_option linter.unusedSimpArgs false
set_option linter.unusedSectionVars false
set_option maxHeartbeats 16000000
set_option maxRecDepth 100000
namespace Go.Proofs.YtbknljofedfpjaaGreat.CtD
open Go Go.CT CtF CtR
variable [Yn]
open CtL (In Cd tgt aim WfC atC codeOK rchL keepT plT aimT trL trC2)
noncomputable def kpL (l:List In) (i:Nat):List Bool:=(List.range i).map (fun i=>keepT l i)++(rchL l).drop i
theorem kpL_len {l:List In} {i:Nat} (h:i≤l.length):(kpL l i).length=l.length:=by simp [kpL,CtL.rchL_len];omega
theorem kpL_at {l:List In} {i:Nat} (h:i<l.length):(kpL l i)[i]? = some ((rchL l).getD i false):=by
 rw [kpL,List.getElem?_append_right (by simp),List.length_map,List.length_range,Nat.sub_self,List.getElem?_drop,Nat.add_zero,List.getD_eq_getElem?_getD,List.getElem?_eq_getElem (by rw [CtL.rchL_len];exact h)]
 rfl
theorem kpL_set {l:List In} {i:Nat} (h:i<l.length):(kpL l i).set i (keepT l i)=kpL l (i+1):=by
 have hd:(rchL l).drop i=(rchL l)[i]'(by rw [CtL.rchL_len];exact h) :: (rchL l).drop (i+1):=List.drop_eq_getElem_cons (by rw [CtL.rchL_len];exact h)
 have:=snoc_set ((List.range i).map fun i=>keepT l i) ((rchL l).drop (i+1)) ((rchL l)[i]'(by rw [CtL.rchL_len];exact h)) (keepT l i)
 rw [List.length_map,List.length_range] at this
 rw [kpL,hd,this,kpL,List.range_succ,List.map_append]
 simp
theorem kpL_end {l:List In} {i:Nat} (h:i<l.length):(kpL l l.length)[i]? = some (keepT l i):=by
 rw [kpL,List.getElem?_append_left (by simpa using h)];simp [h]
noncomputable def plO (l:List In) (i:Nat):List Int:=(List.range i).map fun j=>((plT l j:Nat):Int)
theorem plO_len (l:List In) (i:Nat):(plO l i).length=i:=by simp [plO]
theorem plO_succ (l:List In) (i:Nat):plO l (i+1)=plO l i++[((plT l i:Nat):Int)]:=by simp [plO,List.range_succ]
theorem plO_at {l:List In} {n i:Nat} (h:i<n):(plO l n)[i]? = some ((plT l i:Nat):Int):=by simp [plO,h]
theorem trimS (c:Cd) (h1:c.vars.length≤1000000) (h2:c.arrays.length≤1000000) (h3:c.list.length≤1000) (h0:0<c.list.length) (hw:WfC c.list):DC Tryz.prog 65 [.agg (cdC c)] [] (fun r h=>r = .agg (cdC ⟨c.vars,c.arrays,trC2 c.list⟩)∧h=[]):=by
 have hmx:=mx_eq
 have hre:=reachS c h3 h0 hw
 obtain ⟨vs,ar,l⟩:=c
 simp only at hw h1 h2 h3 h0 hre
 simp only [cdC,ints] at hre ⊢
 generalize hR:(fun (r:D) (h:List (Option (List C)))=>r = .agg _∧h=[])=R
 have hle:=CtL.plT_le l
 refine dcZ Tryz.func65 ?_
 simp only [go_sem]
 ((try (refine drvZ Tryz.func65 ?_;simp only [go_sem]));((with_reducible and_intros)<;>try exact sd))
 refine XK.callG [] hre ok113 (fun i' x h=>by simp at h) (hbT ()) (fun d h' ⟨_,e⟩=>by subst e;simp) ?_
 rintro _ _ ⟨rfl,rfl⟩ _
 iterate 3 ((try (refine drvZ Tryz.func65 ?_;simp only [go_sem,boolsC_ren,List.length_map]));((with_reducible and_intros)<;>try exact sd))
 have hd0:rchL l=kpL l 0:=by simp [kpL]
 rw [hd0]
 refine Go.loopQ (fun i : Nat => [(1, .c (.ptr 0 0)), (2, .c (.ptr 64 0)), (3, .c (.msl 192 1 0 l.length)), (4, DI .i64 i)])
  (fun i=>[(0,some [isI vs,isI ar,.isl 5 (l.map inX)]),(64,some [.v (.slice none 0 0),.v (.slice none 0 0),.v (.slice none 0 0)]),(192,some (boolsC (kpL l i)))]) 4096 (fun i=>i≤l.length) (fun i=>l.length - i) ?_ 0 some [] _ (Nat.zero_le _) ?_
 ·intro i hi again
  rcases Nat.lt_or_ge i l.length with hlt | hge
  ·obtain ⟨x,hx⟩:∃ x,l[i]? = some x:=⟨l[i],by simp [hlt]⟩
   have hat:=CtL.atC_get hx
   have a1:=kpL_at hlt
   have hbl:=boolsC_len (kpL l i)
   rw [kpL_len hi] at hbl
   have b1:=kpL_set hlt
   have hkd:keepT l i=((rchL l).getD i false && !(decide (x.op=8) && decide (x.a=(i:Int)+1))):=by rw [keepT,hat]
   generalize kpL l i=N at *
   generalize hN':kpL l (i+1)=N' at *
   generalize (rchL l).getD i false=m at *
   obtain ⟨op,xa,xb,xc,xd⟩:=x
   simp only at hkd
   have fin:∀ S',Mq 0 some [] [(1,.c (.ptr 0 0)),(2,.c (.ptr 64 0)),(3,.c (.msl 192 1 0 l.length)),(4,DI .i64 ((i+1:Nat):Int))] [(0,some [isI vs,isI ar,.isl 5 (l.map inX)]),(64,some [.v (.slice none 0 0),.v (.slice none 0 0),.v (.slice none 0 0)]),(192,some (boolsC N'))] S'→_:=fun S' hS=>again (i+1) some [] S' hlt (by omega) (by rw [hN'];exact hS)
   by_cases h8:op=8
   ·subst h8
    by_cases ha:xa=(i:Int)+1
    ·subst ha
     have hkq:keepT l i=false:=by rw [hkd];simp
     rw [hkq] at b1
     have b4:(boolsC N).set i (.v (.bool false))=boolsC N':=by rw [boolsC_set,b1]
     refine drvL Tryz.func65 ?_
     simp only [go_sem,hx,inX,hlt]
     iterate 6 ((try (refine drvZ Tryz.func65 ?_;simp only [go_sem,hx,inX,hlt,hbl,b4,List.length_map,beq_self_eq_true]));((with_reducible and_intros)<;>try exact sd))
     refine fin _ ?_
     simp only [go_sem,TmOK,DM,DMs,CM,CMs,forall_eq,exists_eq_left,Mq,HpOK,LowOK]
     simp [CMs_bC,CMs,CM,isI,kf]
    ·have ga:(xa == (i:Int)+1)=false:=by simp [ha]
     have hkq:keepT l i=m:=by rw [hkd];simp [ha]
     rw [hkq,set_self a1] at b1
     subst b1
     refine drvL Tryz.func65 ?_
     simp only [go_sem,hx,inX,hlt,ga,ha]
     iterate 6 ((try (refine drvZ Tryz.func65 ?_;simp only [go_sem,hx,inX,hlt,hbl,List.length_map,beq_self_eq_true,ga,ha]));((with_reducible and_intros)<;>try exact sd))
     refine fin _ ?_
     simp only [go_sem,TmOK,DM,DMs,CM,CMs,forall_eq,exists_eq_left,Mq,HpOK,LowOK]
     simp [CMs_bC,CMs,CM,isI,kf]
   ·have g8:(op == 8)=false:=by simp [h8]
    have hkq:keepT l i=m:=by rw [hkd];simp [h8]
    rw [hkq,set_self a1] at b1
    subst b1
    refine drvL Tryz.func65 ?_
    simp only [go_sem,hx,inX,hlt,g8,h8]
    iterate 6 ((try (refine drvZ Tryz.func65 ?_;simp only [go_sem,hx,inX,hlt,hbl,List.length_map,beq_self_eq_true,g8,h8]));((with_reducible and_intros)<;>try exact sd))
    refine fin _ ?_
    simp only [go_sem,TmOK,DM,DMs,CM,CMs,forall_eq,exists_eq_left,Mq,HpOK,LowOK]
    simp [CMs_bC,CMs,CM,isI,kf]
  ·have hn:¬ i<l.length:=by omega
   obtain rfl:i=l.length:=by omega
   have hbl:=boolsC_len (kpL l l.length)
   rw [kpL_len (Nat.le_refl _)] at hbl
   have hke:=fun i h=>bC_at (kpL_end (l:=l) (i:=i) h)
   generalize kpL l l.length=KK at *
   refine drvL Tryz.func65 ?_
   simp only [go_sem,hn]
   iterate 3 ((try (refine drvZ Tryz.func65 ?_;simp only [go_sem,hn]));((with_reducible and_intros)<;>try exact sd))
   refine Go.loopQ (fun i : Nat => [(1, .c (.ptr 0 0)), (2, .c (.ptr 64 0)), (3, .c (.msl 192 1 0 l.length)), (5, .c (.msl 400 1 0 i)), (6, DI .i64 (plT l i : Nat)), (7, DI .i64 i)])
    (fun i=>[(0,some [isI vs,isI ar,.isl 5 (l.map inX)]),(64,some [.v (.slice none 0 0),.v (.slice none 0 0),.v (.slice none 0 0)]),(192,some (boolsC KK)),(400,some ((plO l i).map I64))]) 8192 (fun i=>i≤l.length) (fun i=>l.length - i) ?_ 0 (fun j=>if j=400 then some 4352 else some j) [] _ (Nat.zero_le _) ?_
   ·intro i hi again
    rcases Nat.lt_or_ge i l.length with hlt | hge
    ·have hkx:=hke i hlt
     have a3:=plO_len l i
     have e4:=plO_succ l i
     have e5:plT l (i+1)=plT l i+(keepT l i).toNat:=by rw [plT]
     have c1:=hle i
     cases hk:keepT l i with
     | true =>
      rw [hk] at hkx e5
      refine drvL Tryz.func65 ?_
      simp only [go_sem,hlt,hkx]
      iterate 6 ((try (refine drvZ Tryz.func65 ?_;simp only [go_sem,hlt,hkx,hbl,a3,List.length_map]));((with_reducible and_intros)<;>try exact sd))
      refine again (i+1) (fun j=>if j=400 then some 8640 else some j) [] _ hlt (by omega) ?_
      rw [e4,e5]
      simp only [go_sem,TmOK,DM,DMs,CM,CMs,forall_eq,exists_eq_left,Mq,HpOK,LowOK]
      simp [CMs_I,CMs_bC,I_app,CMs_I1]
     | false =>
      rw [hk] at hkx e5
      refine drvL Tryz.func65 ?_
      simp only [go_sem,hlt,hkx]
      iterate 6 ((try (refine drvZ Tryz.func65 ?_;simp only [go_sem,hlt,hkx,hbl,a3,List.length_map]));((with_reducible and_intros)<;>try exact sd))
      refine again (i+1) (fun j=>if j=400 then some 8640 else some j) [] _ hlt (by omega) ?_
      rw [e4,e5]
      simp only [go_sem,TmOK,DM,DMs,CM,CMs,forall_eq,exists_eq_left,Mq,HpOK,LowOK]
      simp [CMs_I,CMs_bC,I_app,CMs_I1]
    ·have hn:¬ i<l.length:=by omega
     obtain rfl:i=l.length:=by omega
     have hfi:(List.map inX l).flatten=inC l:=in_flat l
     refine drvL Tryz.func65 ?_
     simp only [go_sem,hn]
     iterate 3 ((try (refine drvZ Tryz.func65 ?_;simp only [go_sem,hn,List.length_map,flat_I']));((with_reducible and_intros)<;>try exact sd))
     refine Go.loopQ (fun i : Nat => [(1, .c (.ptr 0 0)), (2, .c (.ptr 64 0)), (3, .c (.msl 192 1 0 l.length)), (5, .c (.msl 400 1 0 l.length)), (8, .c (.ptr 2000 0)), (9, DI .i64 i)])
      (fun i=>[(0,some [isI vs,isI ar,.isl 5 (l.map inX)]),(64,some [.v (.slice none 0 0),.v (.slice none 0 0),.v (.slice none 0 0)]),(192,some (boolsC KK)),(400,some ((plO l l.length).map I64)),(2000,some [.msl 2001 1 0 vs.length,.msl 2002 1 0 ar.length,.msl 1000 5 0 (plT l i)]),(2001,some (vs.map I64)),(2002,some (ar.map I64)),(1000,some (inC (trL l i)))]) 12288 (fun i=>i≤l.length) (fun i=>l.length - i) ?_ 0 (fun j=>if j=1000 then none else if j=2000 then some 9024 else if j=2001 then some 8640 else if j=2002 then some 8896 else some j) [] _ (Nat.zero_le _) ?_
     ·intro i hi again
      rcases Nat.lt_or_ge i l.length with hlt | hge
      ·obtain ⟨x,hx⟩:∃ x,l[i]? = some x:=⟨l[i],by simp [hlt]⟩
       have hat:=CtL.atC_get hx
       have hkx:=hke i hlt
       have a3:=plO_len l l.length
       have e2:=CtL.trL_len l i
       have e3:=inC_len (trL l i)
       rw [e2] at e3
       have c1:=hle i
       have e4:trL l (i+1)=trL l i++(if keepT l i then [aimT l x] else []):=by rw [trL,hat]
       have e5:plT l (i+1)=plT l i+(keepT l i).toNat:=by rw [plT]
       have htg:=tgtS x
       have haf:aimT l x=if 0≤tgt x then aim x (plT l (tgt x).toNat) else x:=rfl
       have hto:=fun t ho=>aimS x t ho
       have hpl:=(hw i hlt).1
       rw [hat] at hpl
       obtain ⟨op,xa,xb,xc,xd⟩:=x
       unfold inX at htg hto
       have tgo:tgt ⟨op,xa,xb,xc,xd⟩ ≠ -1→op=8∨op=9∨op=10:=fun h=>by
        by_cases h8:op=8
        ·exact .inl h8
        ·by_cases h9:op=9
         ·exact .inr (.inl h9)
         ·by_cases h10:op=10
          ·exact .inr (.inr h10)
          ·exact absurd (CtL.tgt_no (x:=⟨op,xa,xb,xc,xd⟩) h8 h9 h10) h
       simp only at hpl hto
       cases hk:keepT l i with
       | false =>
        rw [hk] at hkx e4 e5
        rw [if_neg (by simp),List.append_nil] at e4
        refine drvL Tryz.func65 ?_
        simp only [go_sem,hlt,hkx]
        iterate 5 ((try (refine drvZ Tryz.func65 ?_;simp only [go_sem,hlt,hkx,hbl,a3,List.length_map]));((with_reducible and_intros)<;>try exact sd))
        refine again (i+1) some [] _ hlt (by omega) ?_
        rw [e4,e5]
        simp only [go_sem,TmOK,DM,DMs,CM,CMs,forall_eq,exists_eq_left,Mq,HpOK,LowOK]
        simp [CMs_I,CMs_in,CMs_bC]
       | true =>
        rw [hk] at hkx e4 e5
        rw [if_pos rfl] at e4
        generalize tgt ⟨op,xa,xb,xc,xd⟩=t at *
        by_cases ht:0≤t
        ·obtain ⟨k,rfl⟩:∃ k:Nat,t=k:=⟨t.toNat,by omega⟩
         rw [if_pos ht,Int.toNat_natCast] at haf
         have ho:=tgo (by omega)
         have hk2:k<l.length:=by have:=(hpl ho).2;rwa [Int.toNat_natCast] at this
         have hpk:((plO l l.length).map I64)[k]? = some (I64 (plT l k:Nat)):=by rw [List.getElem?_map,plO_at hk2];rfl
         have hto:=hto (plT l k:Nat) ho
         obtain ⟨y,hy⟩:∃ y,aim ⟨op,xa,xb,xc,xd⟩ (plT l k:Nat)=y:=⟨_,rfl⟩
         rw [hy] at hto haf
         obtain ⟨yo,ya,yb,yc,yd⟩:=y
         rw [haf] at e4
         refine drvL Tryz.func65 ?_
         simp only [go_sem,hx,inX,hlt,hkx]
         iterate 10 ((try (refine drvZ Tryz.func65 ?_;simp only [go_sem,hx,inX,hlt,hkx,hbl,a3,e3,List.length_map,ht,hpk,hk2,plO_at hk2]));((with_reducible and_intros)<;>try exact sd);(try first | refine XK.p htg ok43 ?_ | refine XK.gp htg ok43 ?_ | refine XK.p hto ok44 ?_ | refine XK.gp hto ok44 ?_))
         refine again (i+1) (fun j=>if j=1000 then some 14208 else some j) [] _ hlt (by omega) ?_
         rw [e4,e5]
         simp only [go_sem,TmOK,DM,DMs,CM,CMs,forall_eq,exists_eq_left,Mq,HpOK,LowOK]
         simp [CMs_I,CMs_bC,inC_app,inCc,inCn,inX]
         first | done | exact CMs.kf (kf_app (inC_kf _) (by simp [kf])) | exact ⟨by omega,CMs.kf (kf_app (inC_kf _) (by simp [kf]))⟩
        ·rw [if_neg ht] at haf
         rw [haf] at e4
         refine drvL Tryz.func65 ?_
         simp only [go_sem,hx,inX,hlt,hkx]
         iterate 10 ((try (refine drvZ Tryz.func65 ?_;simp only [go_sem,hx,inX,hlt,hkx,hbl,a3,e3,List.length_map,ht]));((with_reducible and_intros)<;>try exact sd);(try first | refine XK.p htg ok43 ?_ | refine XK.gp htg ok43 ?_ | refine XK.p hto ok44 ?_ | refine XK.gp hto ok44 ?_))
         refine again (i+1) (fun j=>if j=1000 then some 13696 else some j) [] _ hlt (by omega) ?_
         rw [e4,e5]
         simp only [go_sem,TmOK,DM,DMs,CM,CMs,forall_eq,exists_eq_left,Mq,HpOK,LowOK]
         simp [CMs_I,CMs_bC,inC_app,inCc,inCn,inX]
         first | done | exact CMs.kf (kf_app (inC_kf _) (by simp [kf])) | exact ⟨by omega,CMs.kf (kf_app (inC_kf _) (by simp [kf]))⟩
      ·have hn:¬ i<l.length:=by omega
       obtain rfl:i=l.length:=by omega
       refine drvL Tryz.func65 ?_
       simp only [go_sem,hn]
       iterate 2 ((try (refine drvZ Tryz.func65 ?_;simp only [go_sem,hn]));((with_reducible and_intros)<;>try exact sd))
       exact RetOb.cdA (L:=trL l l.length) (by rw [← hR];exact ⟨rfl,rfl⟩) rfl rfl rfl rfl rfl (CtL.trL_len l _).symm
     ·simp only [go_sem,TmOK,DM,DMs,CM,CMs,forall_eq,exists_eq_left,Mq,HpOK,LowOK]
      have z0:plT l 0=0:=rfl
      simp [upd,isI,CMs_I,CMs,CM,kf,z0,trL,inC,CMs_bC]
   ·simp only [go_sem,TmOK,DM,DMs,CM,CMs,forall_eq,exists_eq_left,Mq,HpOK,LowOK]
    have z0:plT l 0=0:=rfl
    simp [upd,isI,CMs_I,CMs,CM,kf,CMs_bC,plO,z0]
 ·simp only [go_sem,TmOK,DM,DMs,CM,CMs,forall_eq,exists_eq_left,Mq,HpOK,LowOK]
  simp [upd,isI,CMs_I,CMs,CM,kf,CMs_bC]
open CtL (In Cd tgt aim WfC atC codeOK trC2 thL optS OptR optM)
theorem codeSameS (vs ar:List Int) (xs ys:List In) (h1:vs.length≤mx) (h2:ar.length≤mx) (h3:xs.length≤mx) (b:Bool) (hb:b=true ↔ xs=ys):DC Tryz.prog 67 [.agg (cdC ⟨vs,ar,xs⟩),.agg (cdC ⟨vs,ar,ys⟩)] [] (fun r h=>r=DB b∧h=[]):=by
 have hmx:=mx_eq
 have e1:=l2Ints vs vs h1
 have e2:=l2Ints ar ar h2
 rw [decide_eq_true rfl] at e1 e2
 have ret:∀ (v:Bool) (hp:Hp),v=b→RetOb 0 (fun r h=>r=DB b∧h=[]) (DB v) hp:=fun v hp e=>by subst e;exact RetOb.plain (d:=DB _) ⟨rfl,rfl⟩ rfl
 generalize hR:(fun (r:D) (h:List (Option (List C)))=>r=DB b∧h=[])=R at ret ⊢
 clear hR
 simp only [cdC,ints] at e1 e2 ⊢
 by_cases hne:xs.length=ys.length
 ·have hq:((xs.length:Int) != (ys.length:Int))=false:=by simp [hne]
  refine dcZ Tryz.func67 ?_
  simp only [go_sem]
  iterate 8 ((try (refine drvZ Tryz.func67 ?_;simp only [go_sem,List.length_map,hq,hne,bne_self_eq_false]));((with_reducible and_intros)<;>try exact sd);(try first | refine XK.p e1 ok116 ?_ | refine XK.gp e1 ok116 ?_ | refine XK.p e2 ok116 ?_ | refine XK.gp e2 ok116 ?_))
  refine Go.loopQ (fun i:Nat=>[(2,.c (.ptr 0 0)),(3,.c (.ptr 64 0)),(5,DI .i64 i)]) (fun _=>[(0,some [isI vs,isI ar,.isl 5 (xs.map inX)]),(64,some [isI vs,isI ar,.isl 5 (ys.map inX)])]) 4096 (fun i=>i≤xs.length∧xs.take i=ys.take i) (fun i=>xs.length - i) ?_ 0 some [] _ ⟨Nat.zero_le _,rfl⟩ ?_
  ·intro i ⟨hi,ht⟩ again
   rcases Nat.lt_or_ge i xs.length with hlt | hge
   ·obtain ⟨x,hx⟩:∃ x,xs[i]? = some x:=⟨xs[i],by simp [hlt]⟩
    obtain ⟨y,hy⟩:∃ y,ys[i]? = some y:=⟨ys[i]'(by omega),List.getElem?_eq_getElem (by omega)⟩
    have hlt2:i<ys.length:=by omega
    by_cases hxy:x=y
    ·subst hxy
     obtain ⟨op,xa,xb,xc,xd⟩:=x
     have ht2:xs.take (i+1)=ys.take (i+1):=by rw [List.take_add_one,List.take_add_one,ht,hx,hy]
     refine drvL Tryz.func67 ?_
     simp only [go_sem,hx,hy,hlt2,hlt,inX]
     iterate 4 ((try (refine drvZ Tryz.func67 ?_;simp only [go_sem,hx,hy,hlt2,hlt,inX,bne_self_eq_false,beq_self_eq_true]));((with_reducible and_intros)<;>try exact sd))
     refine again (i+1) some [] _ ⟨hlt,ht2⟩ (by omega) ?_
     simp only [go_sem,TmOK,DM,DMs,CM,CMs,forall_eq,exists_eq_left,Mq,HpOK,LowOK]
     try simp [CMs,CM,isI,kf]
    ·have hbf:b=false:=by
      cases hbb:b with
      | false=>rfl
      | true =>
       have:=hb.1 hbb
       subst this
       rw [hx] at hy
       simp only [Option.some.injEq] at hy
       exact absurd hy hxy
     obtain ⟨op,xa,xb,xc,xd⟩:=x
     obtain ⟨yo,ya,yb,yc,yd⟩:=y
     refine drvL Tryz.func67 ?_
     simp only [go_sem,hx,hy,hlt2,hlt,inX]
     iterate 3 ((try (refine drvZ Tryz.func67 ?_;simp only [go_sem,hx,hy,hlt2,hlt,inX]));((with_reducible and_intros)<;>try exact sd))
     ·intro _
      exact ret _ _ hbf.symm
     ·rintro ⟨rfl,rfl,rfl,rfl,rfl⟩
      exact absurd rfl hxy
   ·have hn:¬ i<xs.length:=by omega
    have hbt:b=true:=hb.2 (by
     rw [List.take_of_length_le (by omega),List.take_of_length_le (by omega)] at ht
     exact ht)
    have hn2:¬ i<ys.length:=by omega
    refine drvL Tryz.func67 ?_
    simp only [go_sem,hn]
    iterate 3 ((try (refine drvZ Tryz.func67 ?_;simp only [go_sem,hn,hn2]));((with_reducible and_intros)<;>try exact sd))
    exact ret _ _ hbt.symm
  ·simp only [go_sem,TmOK,DM,DMs,CM,CMs,forall_eq,exists_eq_left,Mq,HpOK,LowOK]
   simp [hne,CMs,CM,isI,kf,upd]
 ·have hbf:b=false:=by
   cases hbb:b with
   | false=>rfl
   | true=>exact absurd (congrArg List.length (hb.1 hbb)) hne
  subst hbf
  have hq:((xs.length:Int) != (ys.length:Int))=true:=by simp;omega
  refine dcZ Tryz.func67 ?_
  simp only [go_sem]
  iterate 8 ((try (refine drvZ Tryz.func67 ?_;simp only [go_sem,List.length_map,hq]));((with_reducible and_intros)<;>try exact sd);(try first | refine XK.p e1 ok116 ?_ | refine XK.gp e1 ok116 ?_ | refine XK.p e2 ok116 ?_ | refine XK.gp e2 ok116 ?_))
  exact ret _ _ rfl
theorem optSp0 (c:Cd) (h1:c.vars.length≤1000000) (h2:c.arrays.length≤1000000) (h3:c.list.length≤1000000) (hc:codeOK c=false):DC Tryz.prog 18 [.agg (cdC c)] [] (fun r h=>r = .tup [.agg (cdC ⟨[],[],[]⟩),DB false]∧h=[]):=by
 have hmx:=mx_eq
 have hv:=codeValidS c (by omega) (by omega) (by omega)
 rw [hc] at hv
 obtain ⟨vs,ar,l⟩:=c
 simp only [cdC,ints] at hv ⊢
 generalize hR:(fun (r:D) (h:List (Option (List C)))=>r = .tup _∧h=[])=R
 refine dcZ Tryz.func18 ?_
 simp only [go_sem]
 iterate 4 ((try (refine drvZ Tryz.func18 ?_;simp only [go_sem]));((with_reducible and_intros)<;>try exact sd);(try first | refine XK.p hv ok41 ?_ | refine XK.gp hv ok41 ?_))
 exact RetOb.noCode (by rw [← hR];exact ⟨rfl,rfl⟩)
theorem optSp (c:Cd) (D1:List In) (hD:OptR c.list D1) (hc:codeOK c=true):DC Tryz.prog 18 [.agg (cdC c)] [] (fun r h=>r = .tup [.agg (cdC ⟨c.vars,c.arrays,D1⟩),DB true]∧h=[]):=by
 have hmx:=mx_eq
 have hcl:=code_len hc
 have hw:=CtL.wf_of hc
 have hv:=codeValidS c (by omega) (by omega) (by omega)
 rw [hc] at hv
 have hth:=fun l h3 hw=>threadS ⟨c.vars,c.arrays,l⟩ (by simp only;omega) (by simp only;omega) h3 hw
 have htr:=fun l h3 h0 hw=>trimS ⟨c.vars,c.arrays,l⟩ (by simp only;omega) (by simp only;omega) h3 h0 hw
 have hsm:=fun l l2 h3 b hb=>codeSameS c.vars c.arrays l l2 (by omega) (by omega) h3 b hb
 obtain ⟨vs,ar,l⟩:=c
 simp only at hcl hw hth htr hsm hD
 simp only [cdC,ints] at hv hth htr hsm ⊢
 generalize hR:(fun (r:D) (h:List (Option (List C)))=>r = .tup _∧h=[])=R
 refine dcZ Tryz.func18 ?_
 simp only [go_sem]
 iterate 4 ((try (refine drvZ Tryz.func18 ?_;simp only [go_sem]));((with_reducible and_intros)<;>try exact sd);(try first | refine XK.p hv ok41 ?_ | refine XK.gp hv ok41 ?_))
 refine Go.loopQ (fun _ : List In => [(1, .c (.ptr 0 0)), (2, .c (.ptr 64 0))]) (fun C => [(0, some [isI vs, isI ar, .isl 5 (C.map inX)]), (64, some [.v (.slice none 0 0), .v (.slice none 0 0), .v (.slice none 0 0)])]) 4096
  (fun C=>WfC C∧0<C.length∧C.length≤400∧OptR C D1) (fun C=>optM C) ?_ l some [] _ ⟨hw,by omega,by omega,hD⟩ ?_
 ·rintro C ⟨g1,g2,g3,g4⟩ again
  have hth:=hth C (by omega) g1
  have hlw:=CtL.thL_wf g1
  have hll:=CtL.thL_len C
  have htr:=htr (thL C) (by omega) (by omega) hlw
  obtain ⟨o1,o2,o3⟩:=CtL.opt_wf g1 g2
  rcases OptR.inv g4 with ⟨e,rfl⟩ | ⟨e,g5⟩
  ·have hsm:=hsm (trC2 (thL D1)) D1 (Nat.le_trans (show (optS D1).length≤400 by omega) (by omega)) true ⟨fun _=>e,fun _=>rfl⟩
   have ee:trC2 (thL D1)=D1:=e
   rw [ee] at htr hsm
   refine drvL Tryz.func18 ?_
   simp only [go_sem]
   iterate 5 ((try (refine drvZ Tryz.func18 ?_;simp only [go_sem]));((with_reducible and_intros)<;>try exact sd);(try first | refine XK.p hth ok66 ?_ | refine XK.gp hth ok66 ?_ | refine XK.p htr ok65 ?_ | refine XK.gp htr ok65 ?_ | refine XK.p hsm ok67 ?_ | refine XK.gp hsm ok67 ?_))
   exact RetOb.codeB (by rw [← hR];exact ⟨rfl,rfl⟩)
  ·have hlt:=CtL.optM_lt g1 g2 e
   have hsm:=hsm (trC2 (thL C)) C (by show (optS C).length≤mx;omega) false (Iff.intro (fun h=>Bool.noConfusion h) (fun h=>absurd h e))
   have ee:trC2 (thL C)=optS C:=rfl
   rw [ee] at htr hsm
   generalize hE:optS C=E at *
   refine drvL Tryz.func18 ?_
   simp only [go_sem]
   iterate 6 ((try (refine drvZ Tryz.func18 ?_;simp only [go_sem]));((with_reducible and_intros)<;>try exact sd);(try first | refine XK.p hth ok66 ?_ | refine XK.gp hth ok66 ?_ | refine XK.p htr ok65 ?_ | refine XK.gp htr ok65 ?_ | refine XK.p hsm ok67 ?_ | refine XK.gp hsm ok67 ?_))
   refine again E some [] _ ⟨o1,o2,by omega,g5⟩ hlt ?_
   simp only [go_sem,TmOK,DM,DMs,CM,CMs,forall_eq,exists_eq_left,Mq,HpOK,LowOK]
   simp [CMs,CM,isI,kf]
 ·simp only [go_sem,TmOK,DM,DMs,CM,CMs,forall_eq,exists_eq_left,Mq,HpOK,LowOK]
  simp [CMs,CM,isI,kf,upd]
open CtL (In Cd compP prj OptR codeOK runM compL xP)
theorem opt_law {p : Pg} {m : Mm} {L : List In} (hok : progOK p = true) (hlen : CtL.lenL 5 p.body + 1 ≤ 400) (hmo : memOK p.vars p.arrays m = true) (hD : OptR (compL p) L) :
 (∃ T,CtL.runC ⟨p.vars,p.arrays,L⟩ m=((runP p m).1,T,true)∧prj T=prj (runP p m).2.1∧T.length≤40000)∨CtL.runC ⟨p.vars,p.arrays,L⟩ m=(⟨[],[]⟩,[],false):=by
 have hcv:=CtL.comp_valid hok hlen
 have hw:=CtL.wf_of hcv
 have hcl:=code_len hcv
 have hln:=runC_len ⟨p.vars,p.arrays,L⟩ m
 have hrt:=runP_of hok hmo
 have hpx:=CtL.xP_prj (m:=m) hok
 obtain ⟨N,e1⟩:=CtL.comp_end hok hmo
 obtain ⟨_,hrun⟩:=OptR.run hD hw (by simp only at hcl;omega)
 obtain ⟨N2,T2,e2,e3⟩:=hrun N _ m _ _ e1
 unfold CtL.runC at hln ⊢
 split
 ·rename_i hc
  rw [if_pos hc] at hln
  split
  ·rename_i q hq
   have f1:=CtL.runM_more 20000 N2 _ _ hq
   have f2:=CtL.runM_more N2 20000 _ _ e2
   rw [Nat.add_comm N2 20000,f1] at f2
   simp only [Option.some.injEq] at f2
   subst f2
   simp only at hln
   rw [hq] at hln
   refine .inl ⟨T2,by rw [hrt],by rw [hrt,e3,hpx],hln⟩
  ·exact .inr rfl
 ·exact .inr rfl
theorem lawOpt (bs:List Int) (hb:Fits .u8 bs) (hl:bs.length≤mx):DC Tryz.prog 4 [bytesD bs] [] (fun d h=>d=DB true∧h=[]):=by
 have hmx:=mx_eq
 have hdr:=drawRunProgram bs hb hl
 unfold bytesD
 unfold bytesD at hdr
 have ret:∀ hp:Hp,RetOb 0 (fun d h=>d=DB true∧h=[]) (DB true) hp:=fun hp=>RetOb.plain (d:=DB true) ⟨rfl,rfl⟩ rfl
 generalize hRR:(fun (d:D) (h:List (Option (List C)))=>d=DB true∧h=[])=R at ret ⊢
 by_cases hbig:1048576<bs.length
 ·have hz:((1048576:Int)<(bs.length:Int))=True:=eq_true (by omega)
  refine dcZ Tryz.func4 ?_
  simp only [go_sem,hz]
  iterate 3 ((try (refine drvZ Tryz.func4 ?_;simp only [go_sem,hz]));((with_reducible and_intros)<;>try exact sd))
  exact ret _
 have hz:((1048576:Int)<(bs.length:Int))=False:=eq_false (by omega)
 refine dcZ Tryz.func4 ?_
 simp only [go_sem,hz]
 iterate 3 ((try (refine drvZ Tryz.func4 ?_;simp only [go_sem,hz]));((with_reducible and_intros)<;>try exact sd))
 refine XK.callG [] hdr ok16 (fun i' x h=>by simp at h) (hbT ()) (fun d h' ⟨_,_,_,_,_,e⟩=>by subst e;simp) ?_
 rintro _ _ ⟨p,m,rfl,hp,hm,rfl⟩ _
 clear hdr
 have h1:=hp.nv
 have h2:=hp.na
 have h3:=hp.nb
 have h4:=hp.sz 5
 have hci:=compProgIA p (by omega) (by omega)
 have hcs:=compProgS p (by omega) (by omega) (by omega)
 have hrn:=runProgI p m (by omega) (by omega)
 have hsm:=runP_sm p m
 rcases compP_cases p with hc | ⟨hok,hlen,hc⟩
 ·rw [hc] at hci hcs
  have hoi:=optI0 ⟨[],[],[]⟩ (by simp) (by simp) (by simp) (by simp [codeOK])
  have hos:=optSp0 ⟨[],[],[]⟩ (by simp) (by simp) (by simp) (by simp [codeOK])
  have hsame:=codeSame ⟨[],[],[]⟩ (by simp) (by simp) (by simp)
  simp only [cdC,ints,List.map_nil] at hci hcs hsame hoi hos
  generalize runP p m=X1 at *
  obtain ⟨⟨u1,u2⟩,t1,b1⟩:=X1
  obtain ⟨vs,ar,bd⟩:=p
  obtain ⟨va,arr⟩:=m
  iterate 24 ((try (refine drvZ Tryz.func4 ?_;simp only [go_sem,Mm.cells,trD,bne_self_eq_false,beq_self_eq_true]));((with_reducible and_intros)<;>try exact sd);(try first | refine XK.p hci ok7 ?_ | refine XK.gp hci ok7 ?_ | refine XK.p hcs ok8 ?_ | refine XK.gp hcs ok8 ?_ | refine XK.p hoi ok17 ?_ | refine XK.gp hoi ok17 ?_ | refine XK.p hos ok18 ?_ | refine XK.gp hos ok18 ?_ | refine XK.p hrn ok13 ?_ | refine XK.gp hrn ok13 ?_ | refine XK.p hsame ok11 ?_ | refine XK.gp hsame ok11 ?_))
  exact ret _
 ·have hlc:=CtL.compL_len hok
  have hpl:=prog_len hok
  have hcv:=CtL.comp_valid hok hlen
  have hcl:=code_len hcv
  simp only at hcl
  rw [hc] at hci hcs
  obtain ⟨L,hD⟩:=CtL.OptR.ex _ (compL p) (Nat.le_refl _) (CtL.wf_of hcv) (by omega)
  have hDl:=(CtL.OptR.run hD (CtL.wf_of hcv) (by omega)).1
  have hoi:=optI ⟨p.vars,p.arrays,compL p⟩ L hD hcv
  have hos:=optSp ⟨p.vars,p.arrays,compL p⟩ L hD hcv
  have hsame:=codeSame ⟨p.vars,p.arrays,L⟩ (by simp only;omega) (by simp only;omega) (by simp only;omega)
  have hrc:=runCodeG ⟨p.vars,p.arrays,L⟩ m (by simp only;omega) (by simp only;omega) (by simp only;omega)
  simp only [cdC,ints] at hci hcs hsame hoi hos
  cases hmo:memOK p.vars p.arrays m with
  | false =>
   have hrf:runP p m=(⟨[],[]⟩,[],false):=runP_false (by rw [hmo,Bool.and_false])
   rw [hrf] at hrn
   clear hD hDl
   generalize compL p=B at *
   have hyl:=runC_len ⟨p.vars,p.arrays,L⟩ m
   generalize CtL.runC ⟨p.vars,p.arrays,L⟩ m=Y at *
   obtain ⟨⟨y1,y2⟩,t2,b2⟩:=Y
   simp only at hyl
   have hm2:=memorySame ⟨[],[]⟩ ⟨y1,y2⟩ (by simp) (by simp) (by simp)
   generalize memSame ⟨[],[]⟩ ⟨y1,y2⟩=g1 at hm2
   have hp2:=projI [] (by simp)
   rw [show prj []=[] from rfl] at hp2
   have hp3:=projI t2 (by omega)
   have ht2:=traceSame [] (prj t2) (by simp)
   generalize trSame [] (prj t2)=g2 at ht2
   obtain ⟨vs,ar,bd⟩:=p
   obtain ⟨va,arr⟩:=m
   simp only [cdC,ints] at hrc
   iterate 30 ((try (refine drvZ Tryz.func4 ?_;simp only [go_sem,Mm.cells,trD,bne_self_eq_false,beq_self_eq_true]));((with_reducible and_intros)<;>try exact sd);(try first | refine XK.p hci ok7 ?_ | refine XK.gp hci ok7 ?_ | refine XK.p hcs ok8 ?_ | refine XK.gp hcs ok8 ?_ | refine XK.p hoi ok17 ?_ | refine XK.gp hoi ok17 ?_ | refine XK.p hos ok18 ?_ | refine XK.gp hos ok18 ?_ | refine XK.p hrn ok13 ?_ | refine XK.gp hrn ok13 ?_ | refine XK.p hrc ok19 ?_ | refine XK.gp hrc ok19 ?_ | refine XK.p hsame ok11 ?_ | refine XK.gp hsame ok11 ?_ | refine XK.p hm2 ok20 ?_ | refine XK.gp hm2 ok20 ?_ | refine XK.p hp2 ok21 ?_ | refine XK.gp hp2 ok21 ?_ | refine XK.p hp3 ok21 ?_ | refine XK.gp hp3 ok21 ?_ | refine XK.p ht2 ok15 ?_ | refine XK.gp ht2 ok15 ?_))
   exact ret _
  | true =>
   have hol:=opt_law hok hlen hmo hD
   have hb1:(runP p m).2.2=true:=by rw [runP_of hok hmo]
   clear hD hDl
   generalize compL p=B at *
   generalize runP p m=X1 at *
   obtain ⟨⟨u1,u2⟩,t1,b1⟩:=X1
   simp only at hsm hol hb1 hrn
   subst hb1
   have hpb:=projI t1 (by omega)
   have hpl':(prj t1).length≤t1.length:=List.length_filter_le _ _
   have hms:=memorySame ⟨u1,u2⟩ ⟨u1,u2⟩ (by simp only;omega) (by simp only;omega) (fun a h=>by have:=hsm.2.2.1 a h;omega)
   rw [memSame_refl] at hms
   have hts:=traceSame (prj t1) (prj t1) (by omega)
   rw [trSame_refl] at hts
   rcases hol with ⟨T,hr,hpx,hx⟩ | hr
   ·rw [hr] at hrc
    have hpa:=projI T (by omega)
    rw [hpx] at hpa
    obtain ⟨vs,ar,bd⟩:=p
    obtain ⟨va,arr⟩:=m
    simp only [cdC,ints] at hrc
    iterate 36 ((try (refine drvZ Tryz.func4 ?_;simp only [go_sem,Mm.cells,trD,bne_self_eq_false,beq_self_eq_true]));((with_reducible and_intros)<;>try exact sd);(try first | refine XK.p hci ok7 ?_ | refine XK.gp hci ok7 ?_ | refine XK.p hcs ok8 ?_ | refine XK.gp hcs ok8 ?_ | refine XK.p hoi ok17 ?_ | refine XK.gp hoi ok17 ?_ | refine XK.p hos ok18 ?_ | refine XK.gp hos ok18 ?_ | refine XK.p hrn ok13 ?_ | refine XK.gp hrn ok13 ?_ | refine XK.p hsame ok11 ?_ | refine XK.gp hsame ok11 ?_ | refine XK.p hrc ok19 ?_ | refine XK.gp hrc ok19 ?_ | refine XK.p hms ok20 ?_ | refine XK.gp hms ok20 ?_ | refine XK.p hpa ok21 ?_ | refine XK.gp hpa ok21 ?_ | refine XK.p hpb ok21 ?_ | refine XK.gp hpb ok21 ?_ | refine XK.p hts ok15 ?_ | refine XK.gp hts ok15 ?_))
    exact ret _
   ·rw [hr] at hrc
    have hm2:=memorySame ⟨u1,u2⟩ ⟨[],[]⟩ (by simp only;omega) (by simp only;omega) (fun a h=>by have:=hsm.2.2.1 a h;omega)
    generalize memSame ⟨u1,u2⟩ ⟨[],[]⟩=g1 at hm2
    have hp2:=projI [] (by simp)
    rw [show prj []=[] from rfl] at hp2
    have ht2:=traceSame (prj t1) [] (by omega)
    generalize trSame (prj t1) []=g2 at ht2
    obtain ⟨vs,ar,bd⟩:=p
    obtain ⟨va,arr⟩:=m
    simp only [cdC,ints] at hrc
    iterate 36 ((try (refine drvZ Tryz.func4 ?_;simp only [go_sem,Mm.cells,trD,bne_self_eq_false,beq_self_eq_true]));((with_reducible and_intros)<;>try exact sd);(try first | refine XK.p hci ok7 ?_ | refine XK.gp hci ok7 ?_ | refine XK.p hcs ok8 ?_ | refine XK.gp hcs ok8 ?_ | refine XK.p hoi ok17 ?_ | refine XK.gp hoi ok17 ?_ | refine XK.p hos ok18 ?_ | refine XK.gp hos ok18 ?_ | refine XK.p hrn ok13 ?_ | refine XK.gp hrn ok13 ?_ | refine XK.p hsame ok11 ?_ | refine XK.gp hsame ok11 ?_ | refine XK.p hrc ok19 ?_ | refine XK.gp hrc ok19 ?_ | refine XK.p hm2 ok20 ?_ | refine XK.gp hm2 ok20 ?_ | refine XK.p hp2 ok21 ?_ | refine XK.gp hp2 ok21 ?_ | refine XK.p hpb ok21 ?_ | refine XK.gp hpb ok21 ?_ | refine XK.p ht2 ok15 ?_ | refine XK.gp ht2 ok15 ?_))
    exact ret _
end Go.Proofs.YtbknljofedfpjaaGreat.CtD
