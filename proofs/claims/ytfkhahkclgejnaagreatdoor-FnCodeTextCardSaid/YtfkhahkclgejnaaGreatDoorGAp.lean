/- Contracts of functions of the program, one behind the other, as plain data: what each call returns and which blocks it leaves. -/
import Derived.Test.YtfkhahkclgejnaaGreatDoorGFacts
import Derived.Test.YtfkhahkclgejnaaGreatDoorGAj
import Derived.Test.YtfkhahkclgejnaaGreatDoorGAl
import Derived.Test.YtfkhahkclgejnaaGreatDoorGAm
import Derived.Test.YtfkhahkclgejnaaGreatDoorGAn
import Derived.Test.YtfkhahkclgejnaaGreatDoorGAo
set_option linter.unusedVariables false
set_option linter.unusedSimpArgs false
set_option linter.unusedSectionVars false
set_option maxHeartbeats 16000000
set_option maxRecDepth 100000
namespace Go.Proofs.YtfkhahkclgejnaaGreatDoor.CtD
open Go Go.CT CtF CtR
variable [Yn]
open CtL (In Cd kindsOf topOf fOK inOK endOK codeOK atC halt)
theorem heads6 (c:Cd):DC Tryz.prog 44 [.agg (cdC c)] [] (fun r h=>r = .agg (Pg.cells (hdC c))∧h=[]):=by
 have hmx:=mx_eq
 obtain ⟨vs,ar,l⟩:=c
 unfold cdC hdC
 refine dcZ Tryz.func44 ?_
 simp only [go_sem]
 iterate 4 ((try (refine drvZ Tryz.func44 ?_;simp only [go_sem]));((with_reducible and_intros)<;>try exact sd))
 refine RetOb.ofQ (fun _=>none) [] (.agg (Pg.cells ⟨vs,ar,[]⟩)) [] ?_ ⟨rfl,rfl⟩ (by simp)
 simp [Pg.cells,St1.cellsL,isI,enumL,DM,DMs,CM,CMs,HpOK,LowOK,hOf,upd,kf]
theorem l6InstrS (c : Cd) (h1 : c.vars.length ≤ mx) (h2 : c.arrays.length ≤ mx) (h3 : c.list.length ≤ mx) (x : In) :
 DC Tryz.prog 45 [.agg (cdC c),.agg (inX x)] [] (fun r h=>r=DB (inOK c.vars.length c.arrays.length c.list.length x)∧h=[]):=by
 have hmx:=mx_eq
 have hf:=fun k hk n=>l6RangeS c h1 h2 h3 k hk n
 have hpa:=l6PartsS x
 have ret:∀ (b:Bool) (hp:Hp),b=inOK c.vars.length c.arrays.length c.list.length x→RetOb 0 (fun r h=>r=DB (inOK c.vars.length c.arrays.length c.list.length x)∧h=[]) (DB b) hp:=fun b hp h=>RetOb.plain (d:=DB _) ⟨by rw [h],rfl⟩ rfl
 generalize hR:(fun (r:D) (h:List (Option (List C)))=>r=DB (inOK c.vars.length c.arrays.length c.list.length x)∧h=[])=R at ret ⊢
 clear hR
 obtain ⟨op,a,b,c',d⟩:=x
 by_cases o1:op<1
 ·have g1:(op<1)=True:=eq_true o1
  unfold cdC inX
  refine dcZ Tryz.func45 ?_
  simp only [go_sem,g1]
  iterate 5 ((try (refine drvZ Tryz.func45 ?_;simp only [go_sem,g1]));((with_reducible and_intros)<;>try exact sd))
  refine ret _ _ ?_
  have hf0:decide (1≤op)=false:=by simp;omega
  simp [inOK,hf0]
 by_cases o2:13<op
 ·have g1:(op<1)=False:=eq_false o1
  have g2:(13<op)=True:=eq_true o2
  unfold cdC inX
  refine dcZ Tryz.func45 ?_
  simp only [go_sem,g1,g2]
  iterate 5 ((try (refine drvZ Tryz.func45 ?_;simp only [go_sem,g1,g2]));((with_reducible and_intros)<;>try exact sd))
  refine ret _ _ ?_
  have hf0:decide (op≤13)=false:=by simp;omega
  simp [inOK,hf0]
 have g1:(op<1)=False:=eq_false o1
 have g2:(13<op)=False:=eq_false o2
 have hfd:=l6FieldsS op (by omega)
 have hk6:∀ i:Nat,(kindsOf op).getD i 0 ≠ 0→1≤(kindsOf op).getD i 0∧(kindsOf op).getD i 0≤6:=fun i h=>⟨by omega,kinds_le op i⟩
 have hin:inOK c.vars.length c.arrays.length c.list.length ⟨op,a,b,c',d⟩=(fOK c.vars.length c.arrays.length c.list.length ((kindsOf op).getD 0 0) a && fOK c.vars.length c.arrays.length c.list.length ((kindsOf op).getD 1 0) b && fOK c.vars.length c.arrays.length c.list.length ((kindsOf op).getD 2 0) c' && fOK c.vars.length c.arrays.length c.list.length ((kindsOf op).getD 3 0) d):=by
  unfold inOK
  rw [show decide (1≤op)=true by simp;omega,show decide (op≤13)=true by simp;omega]
  rfl
 rw [hin] at ret
 have retF:∀ (i:Nat) (hp:Hp),i<4→fOK c.vars.length c.arrays.length c.list.length ((kindsOf op).getD i 0) ([a,b,c',d].getD i 0)=false→RetOb 0 R (DB false) hp:=fun i hp hi h=>by
  refine ret _ _ ?_
  have:i=0∨i=1∨i=2∨i=3:=by omega
  rcases this with rfl | rfl | rfl | rfl
  ·rw [show fOK c.vars.length c.arrays.length c.list.length ((kindsOf op).getD 0 0) a=false from h];simp only [Bool.and_false,Bool.false_and]
  ·rw [show fOK c.vars.length c.arrays.length c.list.length ((kindsOf op).getD 1 0) b=false from h];simp only [Bool.and_false,Bool.false_and]
  ·rw [show fOK c.vars.length c.arrays.length c.list.length ((kindsOf op).getD 2 0) c'=false from h];simp only [Bool.and_false,Bool.false_and]
  ·rw [show fOK c.vars.length c.arrays.length c.list.length ((kindsOf op).getD 3 0) d=false from h];simp only [Bool.and_false]
 have retT:∀ (hp:Hp),(∀ i:Nat,i<4→fOK c.vars.length c.arrays.length c.list.length ((kindsOf op).getD i 0) ([a,b,c',d].getD i 0)=true)→RetOb 0 R (DB true) hp:=fun hp h=>by
  refine ret _ _ ?_
  have q0:=h 0 (by omega)
  have q1:=h 1 (by omega)
  have q2:=h 2 (by omega)
  have q3:=h 3 (by omega)
  rw [show fOK c.vars.length c.arrays.length c.list.length ((kindsOf op).getD 0 0) a=true from q0,show fOK c.vars.length c.arrays.length c.list.length ((kindsOf op).getD 1 0) b=true from q1,show fOK c.vars.length c.arrays.length c.list.length ((kindsOf op).getD 2 0) c'=true from q2,show fOK c.vars.length c.arrays.length c.list.length ((kindsOf op).getD 3 0) d=true from q3];rfl
 clear ret hin
 have hcx:cdC c=[isI c.vars,isI c.arrays,.isl 5 (c.list.map inX)]:=rfl
 have hlx:inX ⟨op,a,b,c',d⟩=[I64 op,I64 a,I64 b,I64 c',I64 d]:=rfl
 rw [hlx] at hpa ⊢
 simp only [hcx] at hf ⊢
 simp only at hpa
 generalize hLI:c.list.map inX=LI at *
 refine dcZ Tryz.func45 ?_
 simp only [go_sem,g1,g2]
 iterate 6 ((try (refine drvZ Tryz.func45 ?_;simp only [go_sem,g1,g2]));((with_reducible and_intros)<;>try exact sd);(try first | refine XK.p hfd ok65 ?_ | refine XK.gp hfd ok65 ?_ | refine XK.p hpa ok66 ?_ | refine XK.gp hpa ok66 ?_))
 refine Go.loopQ (fun i : Nat => [(2, .c (.ptr 0 0)), (5, DS (sls op)), (6, .c (.isl 1 [[I64 a], [I64 b], [I64 c'], [I64 d]])), (7, DI .i64 i)]) (fun _ => [(0, some [isI c.vars, isI c.arrays, .isl 5 LI])])
  2048 (fun i=>i≤4∧∀ j:Nat,j<i→fOK c.vars.length c.arrays.length c.list.length ((kindsOf op).getD j 0) ([a,b,c',d].getD j 0)=true) (fun i=>4 - i) ?_ 0 some [] _ ⟨by omega,fun j hj=>by omega⟩ ?_
 ·rintro i ⟨hi,hI⟩ again
  rcases Nat.lt_or_ge i 4 with hlt | hge
  ·have hx:[[I64 a],[I64 b],[I64 c'],[I64 d]][i]? = some [I64 ([a,b,c',d].getD i 0)]:=by
    have:i=0∨i=1∨i=2∨i=3:=by omega
    rcases this with rfl | rfl | rfl | rfl<;>rfl
   have hlt':(i:Int)<4:=by omega
   have hlt2:i < [[I64 a],[I64 b],[I64 c'],[I64 d]].length:=hlt
   have hln:=sls_len op i hlt
   have hat:=sls_at op i
   have hkk:=hk6 i
   have retF:=fun hp=>retF i hp hlt
   have hst:∀ q:fOK c.vars.length c.arrays.length c.list.length ((kindsOf op).getD i 0) ([a,b,c',d].getD i 0)=true,i+1≤4∧∀ j:Nat,j<i+1→fOK c.vars.length c.arrays.length c.list.length ((kindsOf op).getD j 0) ([a,b,c',d].getD j 0)=true:=fun q=>⟨hlt,fun j hj=>by
    by_cases e:j=i
    ·subst e;exact q
    ·exact hI j (by omega)⟩
   have hfz:(kindsOf op).getD i 0=0→fOK c.vars.length c.arrays.length c.list.length ((kindsOf op).getD i 0) ([a,b,c',d].getD i 0)=decide ([a,b,c',d].getD i 0=0):=fun e=>by
    rw [e,Bool.eq_iff_iff];simp [fOK,topOf];omega
   generalize [a,b,c',d].getD i 0=n at *
   generalize (kindsOf op).getD i 0=k at *
   generalize [[I64 a],[I64 b],[I64 c'],[I64 d]]=fl at *
   generalize sls op=sp at *
   by_cases hk0:k=0
   ·subst hk0
    have hq:=hfz rfl
    have hnl:¬ i<sp.size:=fun h=>by have:=hln.1 h;omega
    have hge':(sp.size:Int)≤i:=by omega
    by_cases hn:n=0
    ·have e1:(n != 0)=false:=by simp [hn]
     have hs:=hst (by rw [hq];simp [hn])
     refine drvL Tryz.func45 ?_
     simp only [go_sem,hlt',hlt2]
     iterate 8 ((try (refine drvZ Tryz.func45 ?_;simp only [go_sem,hx,hlt',hlt2,hnl,hge',e1]));((with_reducible and_intros)<;>try exact sd);(try first | refine XK.gs (DB false) ?_))
     refine again (i+1) some [] _ hs (by omega) ?_
     simp only [go_sem,TmOK,DM,DMs,CM,CMs,forall_eq,exists_eq_left,Mq,HpOK,LowOK]
     try simp
    ·have e1:(n != 0)=true:=by simp [hn]
     refine drvL Tryz.func45 ?_
     simp only [go_sem,hlt',hlt2]
     iterate 8 ((try (refine drvZ Tryz.func45 ?_;simp only [go_sem,hx,hlt',hlt2,hnl,hge',e1]));((with_reducible and_intros)<;>try exact sd);(try first | refine XK.gs (DB false) ?_))
     exact retF _ (by rw [hq];simp [hn])
   ·have hrg:=hf k (hkk hk0) n
    have hli:i<sp.size:=hln.2 hk0
    have hnge:¬ (sp.size:Int)≤i:=by omega
    have hat:=hat hk0
    cases hq:fOK c.vars.length c.arrays.length c.list.length k n with
    | true =>
     rw [hq] at hrg
     have hs:=hst hq
     refine drvL Tryz.func45 ?_
     simp only [go_sem,hlt',hlt2]
     iterate 6 ((try (refine drvZ Tryz.func45 ?_;simp only [go_sem,hx,hlt',hlt2,hli,hnge,hat]));((with_reducible and_intros)<;>try exact sd);(try first | refine XK.p hrg ok73 ?_ | refine XK.gp hrg ok73 ?_))
     refine again (i+1) some [] _ hs (by omega) ?_
     simp only [go_sem,TmOK,DM,DMs,CM,CMs,forall_eq,exists_eq_left,Mq,HpOK,LowOK]
     try simp
    | false =>
     rw [hq] at hrg
     refine drvL Tryz.func45 ?_
     simp only [go_sem,hlt',hlt2]
     iterate 6 ((try (refine drvZ Tryz.func45 ?_;simp only [go_sem,hx,hlt',hlt2,hli,hnge,hat]));((with_reducible and_intros)<;>try exact sd);(try first | refine XK.p hrg ok73 ?_ | refine XK.gp hrg ok73 ?_))
     exact retF _ hq
  ·obtain rfl:i=4:=by omega
   have h44:(((4:Nat):Int)<4)=False:=eq_false (by decide)
   refine drvL Tryz.func45 ?_
   simp only [go_sem,h44]
   iterate 3 ((try (refine drvZ Tryz.func45 ?_;simp only [go_sem,h44]));((with_reducible and_intros)<;>try exact sd))
   exact retT _ hI
 ·simp only [go_sem,TmOK,DM,DMs,CM,CMs,forall_eq,exists_eq_left,Mq,HpOK,LowOK]
  try simp
theorem codeValidS (c:Cd) (h1:c.vars.length≤2000000) (h2:c.arrays.length≤2000000) (h3:c.list.length≤100000000):DC Tryz.prog 14 [.agg (cdC c)] [] (fun r h=>r=DB (codeOK c)∧h=[]):=by
 have hmx:=mx_eq
 have hf:=fun x=>l6InstrS c (by omega) (by omega) (by omega) x
 have hhd:=heads6 c
 have hh2:=l2Heads (hdC c) (by simp only [hdC];omega) (by simp only [hdC];omega)
 have ret:∀ (b:Bool) (hp:Hp),b=codeOK c→RetOb 0 (fun r h=>r=DB (codeOK c)∧h=[]) (DB b) hp:=fun b hp h=>RetOb.plain (d:=DB _) ⟨by rw [h],rfl⟩ rfl
 generalize hR:(fun (r:D) (h:List (Option (List C)))=>r=DB (codeOK c)∧h=[])=R at ret ⊢
 clear hR
 obtain ⟨vs,ar,l⟩:=c
 simp only at h1 h2 h3 hf
 simp only [hdC] at hhd hh2
 unfold codeOK at ret
 simp only at ret
 generalize hhb:headsOK vs ar=hb at *
 unfold cdC at hf hhd ⊢
 simp only at hf hhd ⊢
 cases hb with
 | false =>
  refine dcZ Tryz.func14 ?_
  simp only [go_sem]
  iterate 6 ((try (refine drvZ Tryz.func14 ?_;simp only [go_sem]));((with_reducible and_intros)<;>try exact sd);(try first | refine XK.p hhd ok44 ?_ | refine XK.gp hhd ok44 ?_ | refine XK.p hh2 ok43 ?_ | refine XK.gp hh2 ok43 ?_))
  exact ret _ _ (by simp)
 | true =>
  by_cases hl1:(l.length:Int)<1
  ·have g1:((l.length:Int)<1)=True:=eq_true hl1
   refine dcZ Tryz.func14 ?_
   simp only [go_sem,List.length_map,g1]
   iterate 6 ((try (refine drvZ Tryz.func14 ?_;simp only [go_sem,List.length_map,g1]));((with_reducible and_intros)<;>try exact sd);(try first | refine XK.p hhd ok44 ?_ | refine XK.gp hhd ok44 ?_ | refine XK.p hh2 ok43 ?_ | refine XK.gp hh2 ok43 ?_))
   refine ret _ _ ?_
   have hf0:decide (1≤(l.length:Int))=false:=by simp;omega
   simp [hf0]
  by_cases hl2:400<(l.length:Int)
  ·have g1:((l.length:Int)<1)=False:=eq_false hl1
   have g2:(400<(l.length:Int))=True:=eq_true hl2
   refine dcZ Tryz.func14 ?_
   simp only [go_sem,List.length_map,g1,g2]
   iterate 6 ((try (refine drvZ Tryz.func14 ?_;simp only [go_sem,List.length_map,g1,g2]));((with_reducible and_intros)<;>try exact sd);(try first | refine XK.p hhd ok44 ?_ | refine XK.gp hhd ok44 ?_ | refine XK.p hh2 ok43 ?_ | refine XK.gp hh2 ok43 ?_))
   refine ret _ _ ?_
   have hf0:decide ((l.length:Int)≤400)=false:=by simp;omega
   simp [hf0]
  have g1:((l.length:Int)<1)=False:=eq_false hl1
  have g2:(400<(l.length:Int))=False:=eq_false hl2
  have t1:decide (1≤(l.length:Int))=true:=by simp;omega
  have t2:decide ((l.length:Int)≤400)=true:=by simp;omega
  rw [t1,t2] at ret
  simp only [Bool.true_and] at ret
  refine dcZ Tryz.func14 ?_
  simp only [go_sem,List.length_map,g1,g2]
  iterate 6 ((try (refine drvZ Tryz.func14 ?_;simp only [go_sem,List.length_map,g1,g2]));((with_reducible and_intros)<;>try exact sd);(try first | refine XK.p hhd ok44 ?_ | refine XK.gp hhd ok44 ?_ | refine XK.p hh2 ok43 ?_ | refine XK.gp hh2 ok43 ?_))
  refine Go.loopQ (fun i : Nat => [(1, .c (.ptr 0 0)), (3, DI .i64 l.length), (4, DI .i64 i)]) (fun _ => [(0, some [isI vs, isI ar, .isl 5 (l.map inX)])])
   1024 (fun i=>i≤l.length∧∀ j:Nat,j<i→∀ x,l[j]? = some x→inOK vs.length ar.length l.length x=true) (fun i=>l.length - i) ?_ 0 some [] _ ⟨by omega,fun j hj=>by omega⟩ ?_
  ·rintro i ⟨hi,hI⟩ again
   rcases Nat.lt_or_ge i l.length with hlt | hge
   ·obtain ⟨x,hx⟩:∃ x,l[i]? = some x:=⟨l[i],by simp [hlt]⟩
    have hxl:(l.map inX)[i]? = some [I64 x.op,I64 x.a,I64 x.b,I64 x.c,I64 x.d]:=by rw [List.getElem?_map,hx];rfl
    have hfx:=hf x
    unfold inX at hfx
    have hmem:x ∈ l:=List.mem_of_getElem? hx
    cases hq:inOK vs.length ar.length l.length x with
    | true =>
     rw [hq] at hfx
     obtain ⟨op,xa,xb,xc,xd⟩:=x
     have hs:i+1≤l.length∧∀ j:Nat,j<i+1→∀ x,l[j]? = some x→inOK vs.length ar.length l.length x=true:=⟨hlt,fun j hj y hy=>by
      by_cases e:j=i
      ·subst e;rw [hx] at hy;cases hy;exact hq
      ·exact hI j (by omega) y hy⟩
     simp only at hxl hfx
     refine drvL Tryz.func14 ?_
     simp only [go_sem,List.length_map,hlt]
     iterate 6 ((try (refine drvZ Tryz.func14 ?_;simp only [go_sem,List.length_map,hlt,hxl]));((with_reducible and_intros)<;>try exact sd);(try first | refine XK.p hfx ok45 ?_ | refine XK.gp hfx ok45 ?_))
     refine again (i+1) some [] _ hs (by omega) ?_
     simp only [go_sem,TmOK,DM,DMs,CM,CMs,forall_eq,exists_eq_left,Mq,HpOK,LowOK]
     try simp
    | false =>
     rw [hq] at hfx
     have hall:l.all (inOK vs.length ar.length l.length)=false:=by
      cases hq2:l.all (inOK vs.length ar.length l.length) with
      | false=>rfl
      | true=>rw [List.all_eq_true] at hq2;rw [hq2 x hmem] at hq;cases hq
     obtain ⟨op,xa,xb,xc,xd⟩:=x
     simp only at hxl hfx
     refine drvL Tryz.func14 ?_
     simp only [go_sem,List.length_map,hlt]
     iterate 6 ((try (refine drvZ Tryz.func14 ?_;simp only [go_sem,List.length_map,hlt,hxl]));((with_reducible and_intros)<;>try exact sd);(try first | refine XK.p hfx ok45 ?_ | refine XK.gp hfx ok45 ?_))
     exact ret _ _ (by rw [hall];rfl)
   ·have hall:l.all (inOK vs.length ar.length l.length)=true:=by
     rw [List.all_eq_true]
     intro x hx
     obtain ⟨j,hj,rfl⟩:=List.getElem_of_mem hx
     exact hI j (by omega) _ (by simp [hj])
    rw [hall,Bool.true_and] at ret
    have hn:¬ i<l.length:=by omega
    obtain ⟨k,hk⟩:∃ k,l.length=k+1:=⟨l.length - 1,by omega⟩
    have hk1:(l.length:Int) - 1=(k:Int):=by omega
    have hkl:k<l.length:=by omega
    obtain ⟨x,hx⟩:∃ x,l[k]? = some x:=⟨l[k],by simp [hkl]⟩
    have hxl:(l.map inX)[k]? = some [I64 x.op,I64 x.a,I64 x.b,I64 x.c,I64 x.d]:=by rw [List.getElem?_map,hx];rfl
    have hen:endOK l=(x.op == 13 || x.op == 8):=by
     unfold endOK atC
     rw [hk,Nat.add_sub_cancel,List.getD_eq_getElem?_getD,hx];rfl
    rw [hen] at ret
    clear again
    obtain ⟨op,xa,xb,xc,xd⟩:=x
    simp only at hxl ret
    by_cases h13:op=13
    ·subst h13
     refine drvL Tryz.func14 ?_
     simp only [go_sem,List.length_map,hn]
     iterate 6 ((try (refine drvZ Tryz.func14 ?_;simp only [go_sem,List.length_map,hn,hk1,hkl,hxl]));((with_reducible and_intros)<;>try exact sd))
     exact ret _ _ (by simp)
    ·have e13:(op == 13)=false:=by simp [h13]
     refine drvL Tryz.func14 ?_
     simp only [go_sem,List.length_map,hn]
     iterate 6 ((try (refine drvZ Tryz.func14 ?_;simp only [go_sem,List.length_map,hn,hk1,hkl,hxl,e13]));((with_reducible and_intros)<;>try exact sd))
     exact ret _ _ (by simp [e13])
  ·simp only [go_sem,TmOK,DM,DMs,CM,CMs,forall_eq,exists_eq_left,Mq,HpOK,LowOK]
   try simp
   try exact fun a _=>rfl
theorem put_at : ∀ (ds A B : List C), ds.length ≤ B.length → putCells (A ++ B) A.length ds = A ++ ds ++ B.drop ds.length
 | [],A,B,_=>by simp [putCells]
 | d :: r,A,[],h=>by simp at h
 | d :: r,A,b :: B,h=>by
  have e:(A++b :: B).set A.length d=(A++[d])++B:=by
   rw [List.set_append_right _ _ (Nat.le_refl _)];simp
  have ih:=put_at r (A++[d]) B (by simpa using h)
  simp only [putCells,e]
  rw [show A.length+1=(A++[d]).length by simp,ih]
  simp
open CtL (In Cd kindsOf topOf fOK inOK endOK codeOK atC halt)
theorem shapeI0 (op:Int) (h:op<1∨13<op):DC Tryz.prog 70 [DI .i64 op] [] (fun r h=>r=DS ByteArray.empty∧h=[]):=by
 have hmx:=mx_eq
 have hw:=CtR.within op 1 13
 have hf:(decide (1≤op) && decide (op≤13))=false:=by rw [Bool.and_eq_false_iff];simp;omega
 rw [hf] at hw
 refine dcZ Tryz.func70 ?_
 simp only [go_sem]
 iterate 4 ((try (refine drvZ Tryz.func70 ?_;simp only [go_sem]));((with_reducible and_intros)<;>try exact sd);(try first | refine XK.p hw ok39 ?_ | refine XK.gp hw ok39 ?_))
 exact RetOb.plain (d:=DS _) ⟨rfl,rfl⟩ rfl
theorem fieldOkG (c : Cd) (h1 : c.vars.length ≤ mx) (h2 : c.arrays.length ≤ mx) (h3 : c.list.length ≤ mx) (k : Nat) (hk : k ≤ 6) (n : Int) :
 DC Tryz.prog 72 [.agg (cdC c),.c (.v (.int .u8 (ltr k).toNat)),DI .i64 n] [] (fun r h=>r=DB (fOK c.vars.length c.arrays.length c.list.length k n)∧h=[]):=by
 have hmx:=mx_eq
 have hw:=fun hi=>CtR.within n 0 hi
 have hw4:=CtR.within n 4 10
 obtain ⟨vs,ar,ls⟩:=c
 simp only at h1 h2 h3
 have ret:∀ (b:Bool) (hp:Hp),b=fOK vs.length ar.length ls.length k n→RetOb 0 (fun r h=>r=DB (fOK vs.length ar.length ls.length k n)∧h=[]) (DB b) hp:=fun b hp h=>RetOb.plain (d:=DB _) ⟨by rw [h],rfl⟩ rfl
 generalize hR:(fun (r:D) (h:List (Option (List C)))=>r=DB (fOK vs.length ar.length ls.length k n)∧h=[])=R at ret ⊢
 clear hR
 have key:k=0∨k=1∨k=2∨k=3∨k=4∨k=5∨k=6:=by omega
 unfold cdC
 rcases key with rfl | rfl | rfl | rfl | rfl | rfl | rfl
 ·rw [show (((ltr 0).toNat:Nat):Int)=45 from rfl]
  refine dcZ Tryz.func72 ?_
  simp only [go_sem]
  iterate 9 ((try (refine drvZ Tryz.func72 ?_;simp only [go_sem]));((with_reducible and_intros)<;>try exact sd))
  refine ret _ _ ?_
  rw [Bool.eq_iff_iff];simp [fOK,topOf];omega
 ·rw [show (((ltr 1).toNat:Nat):Int)=114 from rfl]
  have hw:=hw (13)
  generalize hB:(decide (0≤n) && decide (n≤13))=B at hw
  refine dcZ Tryz.func72 ?_
  simp only [go_sem]
  iterate 10 ((try (refine drvZ Tryz.func72 ?_;simp only [go_sem,Int.reduceLE,List.length_map]));((with_reducible and_intros)<;>try exact sd);(try first | refine XK.p hw ok39 ?_ | refine XK.gp hw ok39 ?_))
  exact ret _ _ (by rw [← hB];simp [fOK,topOf])
 ·rw [show (((ltr 2).toNat:Nat):Int)=110 from rfl]
  have hw:=hw (255)
  generalize hB:(decide (0≤n) && decide (n≤255))=B at hw
  refine dcZ Tryz.func72 ?_
  simp only [go_sem]
  iterate 10 ((try (refine drvZ Tryz.func72 ?_;simp only [go_sem,Int.reduceLE,List.length_map]));((with_reducible and_intros)<;>try exact sd);(try first | refine XK.p hw ok39 ?_ | refine XK.gp hw ok39 ?_))
  exact ret _ _ (by rw [← hB];simp [fOK,topOf])
 ·rw [show (((ltr 3).toNat:Nat):Int)=118 from rfl]
  have hw:=hw ((vs.length:Int) - 1)
  generalize hB:(decide (0≤n) && decide (n≤(vs.length:Int) - 1))=B at hw
  refine dcZ Tryz.func72 ?_
  simp only [go_sem]
  iterate 10 ((try (refine drvZ Tryz.func72 ?_;simp only [go_sem,Int.reduceLE,List.length_map]));((with_reducible and_intros)<;>try exact sd);(try first | refine XK.p hw ok39 ?_ | refine XK.gp hw ok39 ?_))
  exact ret _ _ (by rw [← hB];simp [fOK,topOf])
 ·rw [show (((ltr 4).toNat:Nat):Int)=97 from rfl]
  have hw:=hw ((ar.length:Int) - 1)
  generalize hB:(decide (0≤n) && decide (n≤(ar.length:Int) - 1))=B at hw
  refine dcZ Tryz.func72 ?_
  simp only [go_sem]
  iterate 10 ((try (refine drvZ Tryz.func72 ?_;simp only [go_sem,Int.reduceLE,List.length_map]));((with_reducible and_intros)<;>try exact sd);(try first | refine XK.p hw ok39 ?_ | refine XK.gp hw ok39 ?_))
  exact ret _ _ (by rw [← hB];simp [fOK,topOf])
 ·rw [show (((ltr 5).toNat:Nat):Int)=111 from rfl]
  have hw:=hw4
  generalize hB:(decide (4≤n) && decide (n≤10))=B at hw
  refine dcZ Tryz.func72 ?_
  simp only [go_sem]
  iterate 10 ((try (refine drvZ Tryz.func72 ?_;simp only [go_sem,Int.reduceLE,List.length_map]));((with_reducible and_intros)<;>try exact sd);(try first | refine XK.p hw ok39 ?_ | refine XK.gp hw ok39 ?_))
  exact ret _ _ (by rw [← hB];simp [fOK,topOf])
 ·rw [show (((ltr 6).toNat:Nat):Int)=105 from rfl]
  have hw:=hw ((ls.length:Int) - 1)
  generalize hB:(decide (0≤n) && decide (n≤(ls.length:Int) - 1))=B at hw
  refine dcZ Tryz.func72 ?_
  simp only [go_sem]
  iterate 10 ((try (refine drvZ Tryz.func72 ?_;simp only [go_sem,Int.reduceLE,List.length_map]));((with_reducible and_intros)<;>try exact sd);(try first | refine XK.p hw ok39 ?_ | refine XK.gp hw ok39 ?_))
  exact ret _ _ (by rw [← hB];simp [fOK,topOf])
theorem instrOkG (c : Cd) (h1 : c.vars.length ≤ mx) (h2 : c.arrays.length ≤ mx) (h3 : c.list.length ≤ mx) (x : In) :
 DC Tryz.prog 42 [.agg (cdC c),.agg (inX x)] [] (fun r h=>r=DB (inOK c.vars.length c.arrays.length c.list.length x)∧h=[]):=by
 have hmx:=mx_eq
 have hf:=fun k hk n=>fieldOkG c h1 h2 h3 k hk n
 have hfi:=fieldsI x
 have ret:∀ (b:Bool) (hp:Hp),b=inOK c.vars.length c.arrays.length c.list.length x→RetOb 0 (fun r h=>r=DB (inOK c.vars.length c.arrays.length c.list.length x)∧h=[]) (DB b) hp:=fun b hp h=>RetOb.plain (d:=DB _) ⟨by rw [h],rfl⟩ rfl
 generalize hR:(fun (r:D) (h:List (Option (List C)))=>r=DB (inOK c.vars.length c.arrays.length c.list.length x)∧h=[])=R at ret ⊢
 clear hR
 obtain ⟨op,a,b,c',d⟩:=x
 have hcx:cdC c=[isI c.vars,isI c.arrays,.isl 5 (c.list.map inX)]:=rfl
 have hlx:inX ⟨op,a,b,c',d⟩=[I64 op,I64 a,I64 b,I64 c',I64 d]:=rfl
 rw [hlx] at hfi ⊢
 simp only [hcx] at hf ⊢
 simp only at hfi
 generalize hLI:c.list.map inX=LI at *
 by_cases ho:op<1∨13<op
 ·have hsh:=shapeI0 op ho
  have hret:false=inOK c.vars.length c.arrays.length c.list.length ⟨op,a,b,c',d⟩:=by
   have hf0:(decide (1≤op) && decide (op≤13))=false:=by rw [Bool.and_eq_false_iff];simp;omega
   simp [inOK,hf0]
  have ret:=fun hp=>ret false hp hret
  have hse:(ByteArray.empty.toList == (ByteArray.toList { data:=#[] }))=true:=by simp [toList_nil]
  have hx0:([[I64 a],[I64 b],[I64 c'],[I64 d]]:List (List C))[0]? = some [I64 a]:=rfl
  refine dcZ Tryz.func42 ?_
  simp only [go_sem]
  iterate 5 ((try (refine drvZ Tryz.func42 ?_;simp only [go_sem]));((with_reducible and_intros)<;>try exact sd);(try first | refine XK.p hsh ok70 ?_ | refine XK.gp hsh ok70 ?_ | refine XK.p hfi ok71 ?_ | refine XK.gp hfi ok71 ?_))
  refine Go.loop ?_
  refine drvL Tryz.func42 ?_
  simp only [go_sem,hx0,hse]
  iterate 6 ((try (refine drvZ Tryz.func42 ?_;simp only [go_sem,hx0,hse]));((with_reducible and_intros)<;>try exact sd);(try first | refine XK.gs (DB false) ?_))
  exact ret _
 have o1:1≤op:=by omega
 have o2:op≤13:=by omega
 have hsh:=shapeI op ⟨o1,o2⟩
 have hin:inOK c.vars.length c.arrays.length c.list.length ⟨op,a,b,c',d⟩=(fOK c.vars.length c.arrays.length c.list.length ((kindsOf op).getD 0 0) a && fOK c.vars.length c.arrays.length c.list.length ((kindsOf op).getD 1 0) b && fOK c.vars.length c.arrays.length c.list.length ((kindsOf op).getD 2 0) c' && fOK c.vars.length c.arrays.length c.list.length ((kindsOf op).getD 3 0) d):=by
  unfold inOK
  rw [show decide (1≤op)=true by simp;omega,show decide (op≤13)=true by simp;omega]
  rfl
 rw [hin] at ret
 have retF:∀ (i:Nat) (hp:Hp),i<4→fOK c.vars.length c.arrays.length c.list.length ((kindsOf op).getD i 0) ([a,b,c',d].getD i 0)=false→RetOb 0 R (DB false) hp:=fun i hp hi h=>by
  refine ret _ _ ?_
  have:i=0∨i=1∨i=2∨i=3:=by omega
  rcases this with rfl | rfl | rfl | rfl
  ·rw [show fOK c.vars.length c.arrays.length c.list.length ((kindsOf op).getD 0 0) a=false from h];simp only [Bool.and_false,Bool.false_and]
  ·rw [show fOK c.vars.length c.arrays.length c.list.length ((kindsOf op).getD 1 0) b=false from h];simp only [Bool.and_false,Bool.false_and]
  ·rw [show fOK c.vars.length c.arrays.length c.list.length ((kindsOf op).getD 2 0) c'=false from h];simp only [Bool.and_false,Bool.false_and]
  ·rw [show fOK c.vars.length c.arrays.length c.list.length ((kindsOf op).getD 3 0) d=false from h];simp only [Bool.and_false]
 have retT:∀ (hp:Hp),(∀ i:Nat,i<4→fOK c.vars.length c.arrays.length c.list.length ((kindsOf op).getD i 0) ([a,b,c',d].getD i 0)=true)→RetOb 0 R (DB true) hp:=fun hp h=>by
  refine ret _ _ ?_
  rw [show fOK c.vars.length c.arrays.length c.list.length ((kindsOf op).getD 0 0) a=true from h 0 (by omega),show fOK c.vars.length c.arrays.length c.list.length ((kindsOf op).getD 1 0) b=true from h 1 (by omega),show fOK c.vars.length c.arrays.length c.list.length ((kindsOf op).getD 2 0) c'=true from h 2 (by omega),show fOK c.vars.length c.arrays.length c.list.length ((kindsOf op).getD 3 0) d=true from h 3 (by omega)];rfl
 clear ret hin
 have hsz:(shp op).size=4:=rfl
 have hse:((shp op).toList == (ByteArray.toList { data:=#[] }))=false:=shp_ne op ⟨o1,o2⟩
 refine dcZ Tryz.func42 ?_
 simp only [go_sem]
 iterate 5 ((try (refine drvZ Tryz.func42 ?_;simp only [go_sem]));((with_reducible and_intros)<;>try exact sd);(try first | refine XK.p hsh ok70 ?_ | refine XK.gp hsh ok70 ?_ | refine XK.p hfi ok71 ?_ | refine XK.gp hfi ok71 ?_))
 refine Go.loopQ (fun i : Nat => [(2, .c (.ptr 0 0)), (5, DS (shp op)), (12, .c (.isl 1 [[I64 a], [I64 b], [I64 c'], [I64 d]])), (13, DI .i64 4), (14, DI .i64 i)]) (fun _ => [(0, some [isI c.vars, isI c.arrays, .isl 5 LI])])
  4096 (fun i=>i≤4∧∀ j:Nat,j<i→fOK c.vars.length c.arrays.length c.list.length ((kindsOf op).getD j 0) ([a,b,c',d].getD j 0)=true) (fun i=>4 - i) ?_ 0 some [] _ ⟨by omega,fun j hj=>by omega⟩ ?_
 ·rintro i ⟨hi,hI⟩ again
  rcases Nat.lt_or_ge i 4 with hlt | hge
  ·have hx:[[I64 a],[I64 b],[I64 c'],[I64 d]][i]? = some [I64 ([a,b,c',d].getD i 0)]:=by
    have:i=0∨i=1∨i=2∨i=3:=by omega
    rcases this with rfl | rfl | rfl | rfl<;>rfl
   have hc:=hf _ (kinds_le op i) ([a,b,c',d].getD i 0)
   have hat:=shp_at op i hlt
   have hlt':(i:Int)<4:=by omega
   have retF:=fun hp=>retF i hp hlt
   have hst:∀ q:fOK c.vars.length c.arrays.length c.list.length ((kindsOf op).getD i 0) ([a,b,c',d].getD i 0)=true,i+1≤4∧∀ j:Nat,j<i+1→fOK c.vars.length c.arrays.length c.list.length ((kindsOf op).getD j 0) ([a,b,c',d].getD j 0)=true:=fun q=>⟨hlt,fun j hj=>by
    by_cases e:j=i
    ·subst e;exact q
    ·exact hI j (by omega)⟩
   generalize [a,b,c',d].getD i 0=n at *
   generalize (kindsOf op).getD i 0=k at *
   generalize [[I64 a],[I64 b],[I64 c'],[I64 d]]=fl at *
   generalize shp op=sp at *
   cases hq:fOK c.vars.length c.arrays.length c.list.length k n with
   | true =>
    rw [hq] at hc
    have hs:=hst hq
    refine drvL Tryz.func42 ?_
    simp only [go_sem,hlt']
    iterate 5 ((try (refine drvZ Tryz.func42 ?_;simp only [go_sem,hx,hlt',hat,hsz,hse]));((with_reducible and_intros)<;>try exact sd);(try first | refine XK.p hc ok72 ?_ | refine XK.gp hc ok72 ?_))
    refine again (i+1) some [] _ hs (by omega) ?_
    simp only [go_sem,TmOK,DM,DMs,CM,CMs,forall_eq,exists_eq_left,Mq,HpOK,LowOK]
    try simp
   | false =>
    rw [hq] at hc
    refine drvL Tryz.func42 ?_
    simp only [go_sem,hlt']
    iterate 5 ((try (refine drvZ Tryz.func42 ?_;simp only [go_sem,hx,hlt',hat,hsz,hse]));((with_reducible and_intros)<;>try exact sd);(try first | refine XK.p hc ok72 ?_ | refine XK.gp hc ok72 ?_))
    exact retF _ hq
  ·obtain rfl:i=4:=by omega
   have h44:(((4:Nat):Int)<4)=False:=eq_false (by decide)
   refine drvL Tryz.func42 ?_
   simp only [go_sem,h44]
   iterate 3 ((try (refine drvZ Tryz.func42 ?_;simp only [go_sem,h44]));((with_reducible and_intros)<;>try exact sd))
   exact retT _ hI
 ·simp only [go_sem,TmOK,DM,DMs,CM,CMs,forall_eq,exists_eq_left,Mq,HpOK,LowOK]
  simp
  try exact fun a _=>rfl
open CtL (In Cd kindsOf topOf fOK inOK endOK codeOK atC halt)
theorem cvFnG (c : Cd) (h1 : c.vars.length ≤ mx) (h2 : c.arrays.length ≤ mx) (h3 : c.list.length ≤ mx) (x : In) :
 DC Tryz.prog 41 [.agg (inX x),.c (.eptr (cdC c))] [] (fun r h=>r=DB (!inOK c.vars.length c.arrays.length c.list.length x)∧h=[]):=by
 have hio:=instrOkG c h1 h2 h3 x
 generalize inOK c.vars.length c.arrays.length c.list.length x=B at *
 unfold cdC at hio ⊢
 obtain ⟨op,a,b,c',d⟩:=x
 unfold inX at hio ⊢
 refine dcZ Tryz.func41 ?_
 simp only [go_sem]
 iterate 4 ((try (refine drvZ Tryz.func41 ?_;simp only [go_sem]));((with_reducible and_intros)<;>try exact sd);(try first | refine XK.p hio ok42 ?_ | refine XK.gp hio ok42 ?_))
 exact RetOb.plain (d:=DB (!B)) ⟨rfl,rfl⟩ rfl
def ixB (p : In → Bool) : List In → Int → Int
 | [],_ => -1
 | x :: r,n=>if p x then ixB p r (n+1) else n
theorem ixB_all (p : In → Bool) : ∀ (l : List In) (n : Int), 0 ≤ n → decide (0 ≤ ixB p l n) = !l.all p
 | [],n,h=>rfl
 | x :: r,n,h=>by
  cases hx:p x with
  | true=>simp only [ixB,hx,if_true,List.all_cons,Bool.true_and];exact ixB_all p r (n+1) (by omega)
  | false=>simp [ixB,hx,h]
theorem indexFuncG (cc : List C) (p : In → Bool) (xs : List In) (hl : xs.length ≤ mx) (hg : ∀ x, DC Tryz.prog 41 [.agg (inX x), .c (.eptr cc)] [] (fun r h => r = DB (!p x) ∧ h = [])) :
 DC Tryz.prog 69 [.c (.isl 5 (xs.map inX)),.c (.clo 41 [.eptr cc])] [] (fun d h=>d=DI .i64 (ixB p xs 0)∧h=[]):=by
 have hmx:=mx_eq
 have ret:∀ (v:Int) (hp:Hp),v=ixB p xs 0→RetOb 0 (fun d h=>d=DI .i64 (ixB p xs 0)∧h=[]) (DI .i64 v) hp:=fun v hp h=>RetOb.plain (d:=DI .i64 _) ⟨by rw [h],rfl⟩ rfl
 generalize hR:(fun (d:D) (h:List (Option (List C)))=>d=DI .i64 (ixB p xs 0)∧h=[])=R at ret ⊢
 clear hR
 refine dcZ Tryz.func69 ?_
 simp only [go_sem]
 ((try (refine drvZ Tryz.func69 ?_;simp only [go_sem]));((with_reducible and_intros)<;>try exact sd))
 refine Go.loopQ (fun i:Nat=>[(0,.c (.isl 5 (xs.map inX))),(1,.c (.clo 41 [.eptr cc])),(7,DI .i64 xs.length),(8,DI .i64 i)]) (fun _=>[]) 1024 (fun i=>i≤xs.length∧ixB p (xs.drop i) i=ixB p xs 0) (fun i=>xs.length - i) ?_ 0 some [] _ ⟨Nat.zero_le _,rfl⟩ ?_
 ·rintro i ⟨hi,hI⟩ again
  rcases Nat.lt_or_ge i xs.length with hlt | hge
  ·obtain ⟨x,hx⟩:∃ x,xs[i]? = some x:=⟨xs[i],by simp [hlt]⟩
   have hgx:=hg x
   rw [List.drop_eq_getElem_cons hlt,(List.getElem?_eq_some_iff.1 hx).2] at hI
   cases hpx:p x with
   | true =>
    rw [hpx] at hgx
    simp only [ixB,hpx,if_true] at hI
    obtain ⟨op,a,b,c,d⟩:=x
    simp only [inX] at hgx
    refine drvL Tryz.func69 ?_
    simp only [go_sem,hx,hlt,inX]
    iterate 5 ((try (refine drvZ Tryz.func69 ?_;simp only [go_sem,hx,hlt,inX]));((with_reducible and_intros)<;>try exact sd);(try first | refine XK.p hgx ok41 ?_ | refine XK.gp hgx ok41 ?_))
    refine again (i+1) some [] _ ⟨hlt,by rw [← hI];rfl⟩ (by omega) ?_
    simp only [go_sem,TmOK,DM,DMs,CM,CMs,forall_eq,exists_eq_left,Mq,HpOK,LowOK]
    first | done | (simp;done) | (simp;exact CM.kf rfl) | exact CM.kf rfl
   | false =>
    rw [hpx] at hgx
    simp only [ixB,hpx] at hI
    obtain ⟨op,a,b,c,d⟩:=x
    simp only [inX] at hgx
    refine drvL Tryz.func69 ?_
    simp only [go_sem,hx,hlt,inX]
    iterate 5 ((try (refine drvZ Tryz.func69 ?_;simp only [go_sem,hx,hlt,inX]));((with_reducible and_intros)<;>try exact sd);(try first | refine XK.p hgx ok41 ?_ | refine XK.gp hgx ok41 ?_))
    exact ret _ _ (by rw [← hI];rfl)
  ·have hn:¬ i<xs.length:=by omega
   have e1:xs.drop i=[]:=List.drop_of_length_le (by omega)
   refine drvL Tryz.func69 ?_
   simp only [go_sem,hn]
   iterate 3 ((try (refine drvZ Tryz.func69 ?_;simp only [go_sem,hn]));((with_reducible and_intros)<;>try exact sd))
   exact ret _ _ (by rw [← hI,e1];rfl)
 ·simp only [go_sem,TmOK,DM,DMs,CM,CMs,forall_eq,exists_eq_left,Mq,HpOK,LowOK]
  first | done | (simp;done) | (simp;exact CM.kf rfl) | exact CM.kf rfl
theorem containsFuncG (cc : List C) (p : In → Bool) (xs : List In) (hl : xs.length ≤ mx) (hg : ∀ x, DC Tryz.prog 41 [.agg (inX x), .c (.eptr cc)] [] (fun r h => r = DB (!p x) ∧ h = [])) :
 DC Tryz.prog 40 [.c (.isl 5 (xs.map inX)),.c (.clo 41 [.eptr cc])] [] (fun d h=>d=DB (!xs.all p)∧h=[]):=by
 have hif:=indexFuncG cc p xs hl hg
 have hal:=ixB_all p xs 0 (by omega)
 generalize ixB p xs 0=k at *
 refine dcZ Tryz.func40 ?_
 simp only [go_sem]
 iterate 3 ((try (refine drvZ Tryz.func40 ?_;simp only [go_sem]));((with_reducible and_intros)<;>try exact sd);(try first | refine XK.p hif ok69 ?_ | refine XK.gp hif ok69 ?_))
 exact RetOb.plain (d:=DB _) ⟨by rw [← hal],rfl⟩ rfl
theorem codeValidG0 (c:Cd) (h1:c.vars.length≤2000000) (h2:c.arrays.length≤2000000) (h3:c.list.length≤100000000) (h:codeOK c=false):DC Tryz.prog 13 [.agg (cdC c)] [] (fun r h=>r=DB false∧h=[]):=by
 have hmx:=mx_eq
 have hfn:=fun x=>cvFnG c (by omega) (by omega) (by omega) x
 have ret:∀ hp:Hp,RetOb 0 (fun r h=>r=DB false∧h=[]) (DB false) hp:=fun hp=>RetOb.plain (d:=DB false) ⟨rfl,rfl⟩ rfl
 generalize hR:(fun (r:D) (h:List (Option (List C)))=>r=DB false∧h=[])=R at ret ⊢
 clear hR
 obtain ⟨vs,ar,l⟩:=c
 simp only at h1 h2 h3 hfn
 have hcf:=containsFuncG (cdC ⟨vs,ar,l⟩) (inOK vs.length ar.length l.length) l (by omega) hfn
 have hde:=declared vs ar (by omega) (by omega)
 have hw:=CtR.within l.length 1 400
 unfold codeOK at h
 simp only at h
 unfold cdC at hcf ⊢
 cases hh:headsOK vs ar with
 | false =>
  rw [hh] at hde
  clear hw hcf
  refine dcZ Tryz.func13 ?_
  simp only [go_sem]
  iterate 8 ((try (refine drvZ Tryz.func13 ?_;simp only [go_sem,List.length_map]));((with_reducible and_intros)<;>try exact sd);(try first | refine XK.p hde ok38 ?_ | refine XK.gp hde ok38 ?_ | refine XK.gs (DB false) ?_))
  exact ret _
 | true =>
  rw [hh] at hde h
  simp only [Bool.true_and] at h
  cases hb:(decide (1≤(l.length:Int)) && decide ((l.length:Int)≤400)) with
  | false =>
   rw [hb] at hw
   clear hcf
   refine dcZ Tryz.func13 ?_
   simp only [go_sem]
   iterate 8 ((try (refine drvZ Tryz.func13 ?_;simp only [go_sem,List.length_map]));((with_reducible and_intros)<;>try exact sd);(try first | refine XK.p hde ok38 ?_ | refine XK.gp hde ok38 ?_ | refine XK.p hw ok39 ?_ | refine XK.gp hw ok39 ?_ | refine XK.gs (DB false) ?_))
   exact ret _
  | true =>
   rw [hb] at hw h
   simp only [Bool.true_and] at h
   simp only [Bool.and_eq_true,decide_eq_true_eq] at hb
   obtain ⟨x,hx⟩:∃ x,l[l.length - 1]? = some x:=⟨l[l.length - 1]'(by omega),by simp⟩
   have hat:atC l (l.length - 1)=x:=by simp [atC,List.getD,hx]
   simp only [endOK,hat] at h
   have hpos:((l.length:Int) - 1).toNat=l.length - 1:=by omega
   have hget:(l.map inX)[l.length - 1]? = some (inX x):=by rw [List.getElem?_map,hx];rfl
   generalize hal:l.all (inOK vs.length ar.length l.length)=al at *
   obtain ⟨op,xa,xb,xc,xd⟩:=x
   simp only at h
   refine dcZ Tryz.func13 ?_
   simp only [go_sem]
   iterate 6 ((try (refine drvZ Tryz.func13 ?_;simp only [go_sem,List.length_map]));((with_reducible and_intros)<;>try exact sd);(try first | refine XK.p hde ok38 ?_ | refine XK.gp hde ok38 ?_ | refine XK.p hw ok39 ?_ | refine XK.gp hw ok39 ?_))
   refine XK.subQ (r := some) (fz := [0]) (tl := [(1, .c (.eptr [isI vs, isI ar, .isl 5 (l.map inX)])), (2, DB false), (17, DB false), (19, .when true (.c (.isl 5 (l.map inX)))), (20, .when true (.c (.clo 41 [.eptr [isI vs, isI ar, .isl 5 (l.map inX)]])))])
    (hl:=[]) ?_ ?_
   ·simp only [go_sem,TmOK,DM,DMs,CM,CMs,forall_eq,exists_eq_left,Mq,HpOK,LowOK]
    simp
   cases al with
   | false =>
    iterate 9 ((try (refine drvZ Tryz.func13 ?_;simp only [go_sem,List.length_map]));((with_reducible and_intros)<;>try exact sd);(try first | refine XK.p hcf ok40 ?_ | refine XK.gp hcf ok40 ?_))
    exact ret _
   | true =>
    simp only [Bool.true_and,Bool.or_eq_false_iff] at h
    have e1:=h.1
    have e2:=h.2
    iterate 9 ((try (refine drvZ Tryz.func13 ?_;simp only [go_sem,List.length_map,hpos,hget,inX,e1,e2]));((with_reducible and_intros)<;>try exact sd);(try first | refine XK.p hcf ok40 ?_ | refine XK.gp hcf ok40 ?_))
    exact ret _
open CtL (In Cd kindsOf)
theorem sls_size (op:Int):(sls op).size≤4:=by
 unfold sls kindsOf
 repeat' split
 all_goals decide
def rdl2 (bs:List Int) (n k:Nat) (LC:List C) (h:List (Option (List C))):Prop:=∃ n':Nat,n≤n'∧n'≤n+k∧h=[some (rdr bs n'),some LC]
def rnR (bs:List Int) (n:Nat) (LC:List C) (r:D) (h:List (Option (List C))):Prop:=∃ x:In,r = .agg (inX x)∧rdl2 bs n 50 LC h
open CtL (In Cd)
theorem RetOb.cdK {R : D → List (Option (List C)) → Prop} {c : Cd} {hp : Hp} {k0 k1 k2 nv na nb : Nat} {rc : List C} (hR : R (.agg (cdC c)) [some rc]) (hrc : ∀ c ∈ rc, kf c = true)
 (hz:hp 0=some (some rc)) (h0:hp k0=some (some (c.vars.map I64))) (h1:hp k1=some (some (c.arrays.map I64))) (h2:hp k2=some (some (inC c.list))) (hv:nv=c.vars.length) (ha:na=c.arrays.length) (hb:nb=c.list.length)
 (hne:0 ≠ k0∧0 ≠ k1∧0 ≠ k2):RetOb 1 R (.agg [.msl k0 1 0 nv,.msl k1 1 0 na,.msl k2 5 0 nb]) hp:=by
 subst hv ha hb
 obtain ⟨vs,ar,l⟩:=c
 obtain ⟨n0,n1,n2⟩:=hne
 refine RetOb.ofQ (fun j=>if j=0 then some 0 else none) [k0,k1,k2] _ [some rc] ?_ hR (by simp)
 have e4:∀ {hT hS:Hp} {r:Nat→Option Nat} {fz:List Nat},CMs hT r hS fz rc rc=True:=eq_true (CMs.kf hrc)
 have g2:=in_len5 l
 have g3:=in_kf5 l
 simp [-List.mem_map,enumL,DM,DMs,CM,CMs,HpOK,LowOK,hOf,upd,cdC,isI,flat_I,kf,e4,hz,h0,h1,h2,in_flat,n0,n1,n2]
 first | exact ⟨⟨I_len1 _,I_kf1 _⟩,⟨I_len1 _,I_kf1 _⟩,g2,g3⟩ | exact ⟨g2,g3⟩
theorem inC_split {l:List In} {i:Nat} {x:In} (h:l[i]? = some x):inC l=inC (l.take i)++inX x++inC (l.drop (i+1)):=by
 have hi:i<l.length:=(List.getElem?_eq_some_iff.1 h).1
 have hx:l[i]=x:=(List.getElem?_eq_some_iff.1 h).2
 conv=>lhs;rw [← List.take_append_drop i l,List.drop_eq_getElem_cons hi,hx]
 rw [inC_app,inC_cons]
 simp
theorem inC_setAt {l:List In} {i:Nat} {x:In} (h:l[i]? = some x) (y:In):inC (l.set i y)=inC (l.take i)++inX y++inC (l.drop (i+1)):=by
 have hi:i<l.length:=(List.getElem?_eq_some_iff.1 h).1
 have h2:(l.set i y)[i]? = some y:=List.getElem?_set_self hi
 rw [inC_split h2,List.take_set_of_le (Nat.le_refl _),List.drop_set_of_lt (by omega)]
theorem inC_put {l:List In} {i:Nat} {x:In} (h:l[i]? = some x) (y:In):putCells (inC l) (i * 5) (inX y)=inC (l.set i y):=by
 have hi:i<l.length:=(List.getElem?_eq_some_iff.1 h).1
 have hlen:(inC (l.take i)).length=i * 5:=by rw [inC_len,List.length_take,Nat.min_eq_left (by omega)]
 rw [inC_split h,inC_setAt h,← hlen,List.append_assoc,put_at _ _ _ (by simp [inX])]
 simp [inX]
theorem inC_put1 {l:List In} {i:Nat} {x:In} (h:l[i]? = some x) (j:Nat) (hj:j<5) (v:Int):∃ y:In,(inC l).set (i * 5+j) (I64 v)=inC (l.set i y):=by
 have hi:i<l.length:=(List.getElem?_eq_some_iff.1 h).1
 have hlen:(inC (l.take i)).length=i * 5:=by rw [inC_len,List.length_take,Nat.min_eq_left (by omega)]
 have key:∀ y:In,(inX x).set j (I64 v)=inX y→(inC l).set (i * 5+j) (I64 v)=inC (l.set i y):=fun y hy=>by
  rw [inC_setAt h,inC_split h,List.append_assoc,← hlen,List.set_append_right _ _ (by omega),Nat.add_sub_cancel_left,List.set_append_left _ _ (by simp [inX];omega),hy,List.append_assoc]
 obtain ⟨op,a,b,c,d⟩:=x
 match j,hj with
 | 0,_=>exact ⟨⟨v,a,b,c,d⟩,key _ rfl⟩
 | 1,_=>exact ⟨⟨op,v,b,c,d⟩,key _ rfl⟩
 | 2,_=>exact ⟨⟨op,a,v,c,d⟩,key _ rfl⟩
 | 3,_=>exact ⟨⟨op,a,b,v,d⟩,key _ rfl⟩
 | 4,_=>exact ⟨⟨op,a,b,c,v⟩,key _ rfl⟩
def muC (bs:List Int) (n:Nat) (r:D) (h:List (Option (List C))):Prop:=∃ c:Cd,r = .agg (cdC c)∧c.vars.length≤13∧c.arrays.length≤2∧c.list.length≤400∧rdL bs n 5 h
theorem l6Mutate (bs : List Int) (n : Nat) (c : Cd) (hb : Fits .u8 bs) (hl : bs.length ≤ 2000) (hn : n ≤ 274877906944) (hv : c.vars.length ≤ 13) (ha : c.arrays.length ≤ 2) (hcl : c.list.length ≤ 400) :
 DC Tryz.prog 63 [.c (.ptr 0 0),.agg (cdC c)] [some (rdr bs n)] (muC bs n):=by
 have hmx:=mx_eq
 generalize hR:muC bs n=R
 obtain ⟨vs,ar,l⟩:=c
 simp only at hv ha hcl
 unfold cdC
 have hfin:∀ (kv ka kl nv na nl:Nat) (n':Nat) (vs':List Int) (l':List In) (hp:Hp),vs'.length≤13→l'.length≤400→n≤n'→n'≤n+5→hp 0=some (some (rdr bs n'))→hp kv=some (some (vs'.map I64))→hp ka=some (some (ar.map I64))→hp kl=some (some (inC l'))→nv=vs'.length→na=ar.length→nl=l'.length →
  (0 ≠ kv∧0 ≠ ka∧0 ≠ kl)→RetOb 1 R (.agg [.msl kv 1 0 nv,.msl ka 1 0 na,.msl kl 5 0 nl]) hp:=fun kv ka kl nv na nl n' vs' l' hp g1 g2 g3 g4 g5 g6 g7 g8 g9 g10 g11 g12 =>
  RetOb.cdK (c:=⟨vs',ar,l'⟩) (by rw [← hR];exact ⟨⟨vs',ar,l'⟩,rfl,g1,ha,g2,n',g3,g4,rfl⟩) (rdr_kf bs n') g5 g6 g7 g8 g9 g10 g11 g12
 have hil:=inC_len l
 by_cases h0:l.length=0
 ·have e0:((l.length:Int) == 0)=true:=by simp [h0]
  refine dcZ Tryz.func63 ?_
  simp only [go_sem,rdr,flat_I',in_flat,e0]
  iterate 5 ((try (refine drvZ Tryz.func63 ?_;simp only [go_sem,rdr,flat_I',in_flat,e0]));((with_reducible and_intros)<;>try exact sd))
  exact hfin 321 577 833 _ _ _ n vs l _ hv hcl (by omega) (by omega) rfl rfl rfl rfl rfl rfl rfl (by decide)
 have e0:((l.length:Int) == 0)=false:=by simp only [beq_eq_false_iff_ne,ne_eq];omega
 obtain ⟨k,hk⟩:∃ k,l.length=k+1:=⟨l.length - 1,by omega⟩
 have hk1:(l.length:Int) - 1=(k:Int):=by omega
 have hkl:k<l.length:=by omega
 obtain ⟨xk,hxk⟩:∃ x,l[k]? = some x:=⟨l[k],by simp [hkl]⟩
 obtain ⟨x0,hx0⟩:∃ x,l[0]? = some x:=⟨l[0]'(by omega),by simp⟩
 refine dcZ Tryz.func63 ?_
 simp only [go_sem,rdr,flat_I',in_flat,e0]
 iterate 5 ((try (refine drvZ Tryz.func63 ?_;simp only [go_sem,rdr,flat_I',in_flat,e0]));((with_reducible and_intros)<;>try exact sd))
 refine XK.callG [0] (pick bs n 60 hb hl (by omega) (by simp only [InK];omega)) ok74 (hhp_one rfl) (hbT ()) (fun d h' ⟨v,_,_,e⟩=>by subst e;simp) ?_
 rintro _ _ ⟨v,rfl,hpv,rfl⟩ _
 clear hpv
 have hpv:v=0∨v=1∨v=2∨v=3∨v=4∨v=5∨(v ≠ 0∧v ≠ 1∧v ≠ 2∧v ≠ 3∧v ≠ 4∧v ≠ 5):=by omega
 rcases hpv with rfl | rfl | rfl | rfl | rfl | rfl | ⟨n0,n1,n2,n3,n4,n5⟩
 ·iterate 4 ((try (refine drvZ Tryz.func63 ?_;simp only [go_sem,rdr]));((with_reducible and_intros)<;>try exact sd))
  refine XK.callG [0,1921] (numO bs (n+1) [0,14,1,12] hb hl (by omega) (by decide) (by decide)) ok77 (hhp2 rfl rfl) (hbT ()) (fun d h' ⟨_,_,_,e⟩=>by subst e;simp) ?_ (fun _=>⟨by kernel_rfl,_,_,⟨0,rfl,by simp,rfl⟩,by simp⟩)
  rintro _ _ ⟨w,rfl,hw,rfl⟩ _
  clear hw
  obtain ⟨y,hy⟩:=inC_put1 hx0 0 (by omega) w
  simp only [Nat.zero_mul,Nat.add_zero] at hy
  iterate 5 ((try (refine drvZ Tryz.func63 ?_;simp only [go_sem,rdr,hy]));((with_reducible and_intros)<;>try exact sd))
  exact hfin 321 577 833 _ _ _ (n+2) vs (l.set 0 y) _ hv (by simp;omega) (by omega) (by omega) rfl rfl rfl rfl rfl rfl (by simp) (by decide)
 ·iterate 4 ((try (refine drvZ Tryz.func63 ?_;simp only [go_sem,rdr]));((with_reducible and_intros)<;>try exact sd))
  refine XK.callG [0] (pick bs (n+1) l.length hb hl (by omega) (by simp only [InK];omega)) ok74 (hhp_one rfl) (hbT ()) (fun d h' ⟨v,_,_,e⟩=>by subst e;simp) ?_ (fun _=>⟨by kernel_rfl,_,_,⟨0,rfl,by omega,rfl⟩,by simp⟩)
  rintro _ _ ⟨q,rfl,hq,rfl⟩ _
  have hq2:0≤q∧q<l.length:=by omega
  obtain ⟨i,rfl⟩:∃ i:Nat,q=i:=⟨q.toNat,by omega⟩
  have hil2:i<l.length:=by omega
  obtain ⟨xi,hxi⟩:∃ x,l[i]? = some x:=⟨l[i],by simp [hil2]⟩
  iterate 4 ((try (refine drvZ Tryz.func63 ?_;simp only [go_sem,rdr,hil2]));((with_reducible and_intros)<;>try exact sd))
  refine XK.callG [0,2241] (numO bs (n+2) [-1,14,0,400] hb hl (by omega) (by decide) (by decide)) ok77 (hhp2 rfl rfl) (hbT ()) (fun d h' ⟨_,_,_,e⟩=>by subst e;simp) ?_ (fun _=>⟨by kernel_rfl,_,_,⟨-1,rfl,by simp,rfl⟩,by simp⟩)
  rintro _ _ ⟨w,rfl,hw,rfl⟩ _
  clear hw
  obtain ⟨y,hy⟩:=inC_put1 hxi 1 (by omega) w
  iterate 6 ((try (refine drvZ Tryz.func63 ?_;simp only [go_sem,rdr,hil2,hy]));((with_reducible and_intros)<;>try exact sd))
  exact hfin 321 577 833 _ _ _ (n+3) vs (l.set i y) _ hv (by simp;omega) (by omega) (by omega) rfl rfl rfl rfl rfl rfl (by simp) (by decide)
 ·iterate 6 ((try (refine drvZ Tryz.func63 ?_;simp only [go_sem,rdr,hk1,hkl]));((with_reducible and_intros)<;>try exact sd))
  have hput:=inC_put hxk ⟨12,0,0,0,0⟩
  simp only [putCells,inX] at hput
  exact hfin 321 577 833 _ _ _ (n+1) vs (l.set k ⟨12,0,0,0,0⟩) _ hv (by simp;omega) (by omega) (by omega) rfl rfl rfl (congrArg (fun x=>some (some x)) hput) rfl rfl (by simp) (by decide)
 ·iterate 6 ((try (refine drvZ Tryz.func63 ?_;simp only [go_sem,rdr,hk1,hkl]));((with_reducible and_intros)<;>try exact sd))
  have hput:=inC_put hxk ⟨8,0,0,0,0⟩
  simp only [putCells,inX] at hput
  exact hfin 321 577 833 _ _ _ (n+1) vs (l.set k ⟨8,0,0,0,0⟩) _ hv (by simp;omega) (by omega) (by omega) rfl rfl rfl (congrArg (fun x=>some (some x)) hput) rfl rfl (by simp) (by decide)
 ·iterate 6 ((try (refine drvZ Tryz.func63 ?_;simp only [go_sem,rdr]));((with_reducible and_intros)<;>try exact sd))
  refine XK.callG [0] (pick bs (n+1) l.length hb hl (by omega) (by simp only [InK];omega)) ok74 (hhp_one rfl) (hbT ()) (fun d h' ⟨v,_,_,e⟩=>by subst e;simp) ?_ (fun _=>⟨by kernel_rfl,_,_,⟨0,rfl,by omega,rfl⟩,by simp⟩)
  rintro _ _ ⟨q,rfl,hq,rfl⟩ _
  have hq2:0≤q∧q<l.length:=by omega
  obtain ⟨i,rfl⟩:∃ i:Nat,q=i:=⟨q.toNat,by omega⟩
  have hil2:i<l.length:=by omega
  obtain ⟨xi,hxi⟩:∃ x,l[i]? = some x:=⟨l[i],by simp [hil2]⟩
  iterate 4 ((try (refine drvZ Tryz.func63 ?_;simp only [go_sem,rdr,hil2]));((with_reducible and_intros)<;>try exact sd))
  refine XK.callG [0,2625] (numO bs (n+2) [1,-1] hb hl (by omega) (by decide) (by decide)) ok77 (hhp2 rfl rfl) (hbT ()) (fun d h' ⟨_,_,_,e⟩=>by subst e;simp) ?_ (fun _=>⟨by kernel_rfl,_,_,⟨1,rfl,by simp,rfl⟩,by simp⟩)
  rintro _ _ ⟨w,rfl,hw,rfl⟩ _
  clear hw
  obtain ⟨y,hy⟩:=inC_put1 hxi 4 (by omega) w
  iterate 6 ((try (refine drvZ Tryz.func63 ?_;simp only [go_sem,rdr,hil2,hy]));((with_reducible and_intros)<;>try exact sd))
  exact hfin 321 577 833 _ _ _ (n+3) vs (l.set i y) _ hv (by simp;omega) (by omega) (by omega) rfl rfl rfl rfl rfl rfl (by simp) (by decide)
 ·iterate 8 ((try (refine drvZ Tryz.func63 ?_;simp only [go_sem,rdr]));((with_reducible and_intros)<;>try exact sd))
  exact hfin 2369 577 833 _ _ _ (n+1) [] l _ (by simp) hcl (by omega) (by omega) rfl rfl rfl rfl rfl rfl rfl (by decide)
 ·have e0:(v == 0)=false:=by simp [n0]
  have e1:(v == 1)=false:=by simp [n1]
  have e2:(v == 2)=false:=by simp [n2]
  have e3:(v == 3)=false:=by simp [n3]
  have e4:(v == 4)=false:=by simp [n4]
  have e5:(v == 5)=false:=by simp [n5]
  iterate 10 ((try (refine drvZ Tryz.func63 ?_;simp only [go_sem,rdr,e0,e1,e2,e3,e4,e5]));((with_reducible and_intros)<;>try exact sd))
  exact hfin 321 577 833 _ _ _ (n+1) vs l _ hv hcl (by omega) (by omega) rfl rfl rfl rfl rfl rfl rfl (by decide)
end Go.Proofs.YtfkhahkclgejnaaGreatDoor.CtD
