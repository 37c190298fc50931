/- Contracts of functions of the program, one behind the other, as plain data: what each call returns and which blocks it leaves. -/
import Derived.Test.YtddanjifhdaebaaIFacts
import Derived.Test.YtddanjifhdaebaaIAk
import Derived.Test.YtddanjifhdaebaaIAl
import Derived.Test.YtddanjifhdaebaaIAm
import Derived.Test.YtddanjifhdaebaaIAn
import Derived.Test.YtddanjifhdaebaaIAo
import Derived.Test.YtddanjifhdaebaaIAt
import Derived.Test.YtddanjifhdaebaaIAu
import Derived.Test.YtddanjifhdaebaaIAr
import Derived.Test.YtddanjifhdaebaaIAs
set_option linter.unusedVariables false
set_option linter.unusedSimpArgs false
set_option linter.unusedSectionVars false
set_option maxHeartbeats 16000000
set_option maxRecDepth 100000
namespace Go.Proofs.Ytddanjifhdaebaa.CtD
open Go Go.CT CtF CtR
variable [Yn]
open CtL (In Cd codeOK runC)
def fdT (rc:Mm→Mm × List Ev × Bool) (l:List Mm) (n:Nat):List (List Ev):=(List.range n).map fun j=>(rc (fdM l j)).2.1
def fdE (rc:Mm→Mm × List Ev × Bool) (l:List Mm) (n:Nat):List Bool:=(List.range n).map fun j=>(rc (fdM l j)).2.2
theorem fdT_len (rc:Mm→Mm × List Ev × Bool) (l:List Mm) (n:Nat):(fdT rc l n).length=n:=by simp [fdT]
theorem fdE_len (rc:Mm→Mm × List Ev × Bool) (l:List Mm) (n:Nat):(fdE rc l n).length=n:=by simp [fdE]
theorem fdT_succ {rc:Mm→Mm × List Ev × Bool} {l:List Mm} {n:Nat} {x:Mm} (h:l[n]? = some x):fdT rc l (n+1)=fdT rc l n++[(rc x).2.1]:=by simp [fdT,List.range_succ,fd_at h]
theorem fdE_succ {rc:Mm→Mm × List Ev × Bool} {l:List Mm} {n:Nat} {x:Mm} (h:l[n]? = some x):fdE rc l (n+1)=fdE rc l n++[(rc x).2.2]:=by simp [fdE,List.range_succ,fd_at h]
theorem fdT_at {rc:Mm→Mm × List Ev × Bool} {l:List Mm} {n i:Nat} {x:Mm} (hi:i<n) (h:l[i]? = some x):(trsC (fdT rc l n))[i]? = some (trD (rc x).2.1):=by simp [trsC,fdT,hi,fd_at h]
theorem fdE_at {rc:Mm→Mm × List Ev × Bool} {l:List Mm} {n i:Nat} {x:Mm} (hi:i<n) (h:l[i]? = some x):(boolsC (fdE rc l n))[i]? = some (.v (.bool (rc x).2.2)):=by simp [boolsC,fdE,hi,fd_at h]
theorem findI (c : Cd) (l : List Mm) (i0 k0 : Nat) (h1 : c.vars.length ≤ 2000000) (h2 : c.arrays.length ≤ 2000000) (h3 : c.list.length ≤ 100000000) (hl : l.length ≤ 1048576) (hf : FD c l i0 k0) :
 DC Try.prog 19 [.agg (cdC c),.c (.isl 2 (l.map Mm.cells))] [] (fun r h=>r=fdR l i0 k0∧h=[]):=by
 have hmx:=mx_eq
 have ret1:∀ hp,i0=l.length→RetOb 0 (fun r h=>r=fdR l i0 k0∧h=[]) (.tup [DI .i64 0,DI .i64 0,DB false]) hp:=fun hp h=>by
  unfold fdR;rw [if_pos h]
  refine RetOb.ofQ (fun _=>none) [] _ [] ?_ ⟨rfl,rfl⟩ (by simp)
  simp [enumL,DM,DMs,CM,CMs,HpOK,LowOK]
 have ret2:∀ hp,i0 ≠ l.length→RetOb 0 (fun r h=>r=fdR l i0 k0∧h=[]) (.tup [DI .i64 i0,DI .i64 k0,DB true]) hp:=fun hp h=>by
  unfold fdR;rw [if_neg h]
  refine RetOb.ofQ (fun _=>none) [] _ [] ?_ ⟨rfl,rfl⟩ (by simp)
  simp [enumL,DM,DMs,CM,CMs,HpOK,LowOK]
 generalize hR:(fun (r:D) (h:List (Option (List C)))=>r=fdR l i0 k0∧h=[])=R at ret1 ret2 ⊢
 clear hR
 have hrc:=fun m=>runCodeG c m h1 h2 h3
 have hpt:∀ m,codeOK c=true→memOK c.vars c.arrays m=true→DC Try.prog 76 [ints c.vars,ints c.arrays,.agg m.cells,.c (.clo 77 [])] [] (fun r h=>r = .agg (clrM secQ c.vars c.arrays m).cells∧h=[]):=fun m hc hm=>by
  have g:=fits_of hc hm
  exact cleared c.vars c.arrays m g.nv g.na (by have h:=g.nv12.2;simp only [hdC] at h;omega) g.na2 (fun a h=>(g.arr a h).1) 77 ok77 secQ (fun x hx=>by
   obtain ⟨a,ha,rfl⟩:∃ a:Nat,a≤3∧x=(a:Int):=hx.elim (labX (codeOK_labs hc).1) (labX (codeOK_labs hc).2)
   exact labelSecretI a ha)
 have hms:∀ a b,codeOK c=true→memOK c.vars c.arrays a=true→DC Try.prog 78 [.agg (clrM secQ c.vars c.arrays a).cells,.agg (clrM secQ c.vars c.arrays b).cells] [] (fun r h=>r=DB (memSame (clrM secQ c.vars c.arrays a) (clrM secQ c.vars c.arrays b))∧h=[]):=fun a b hc hm=>by
  have g:=fits_of hc hm
  have hq:=clrM_len (vs:=c.vars) (ar:=c.arrays) (m:=a) g.nv g.na (fun a h=>(g.arr a h).1)
  exact memorySame _ _ (by omega) (by omega) (fun x hx=>by have:=hq.2.2 x hx;omega)
 have hts:=fun a b=>traceSame (runC c a).2.1 (runC c b).2.1 (by have:=runC_len c a;omega)
 have hno:=hf.no
 have hyes:=hf.yes
 have hle:=hf.le
 have hok:=fun m=>runC_ok (c:=c) (m:=m)
 have hxs:∀ {i:Nat} {x:Mm},l[i]? = some x→(l.map Mm.cells)[i]? = some x.cells:=fun h=>by rw [List.getElem?_map,h];rfl
 have hrl:(l.map Mm.cells).length=l.length:=by simp
 generalize l.map Mm.cells=rows at *
 have hP:=fun {i k:Nat} {x y:Mm} (hx:l[i]? = some x) (hy:l[k]? = some y)=>show fdP c l i k=((runC c x).2.2 && ((runC c y).2.2 && (!trSame (runC c x).2.1 (runC c y).2.1 && memSame (clrM secQ c.vars c.arrays x) (clrM secQ c.vars c.arrays y)))) by unfold fdP;rw [fd_at hx,fd_at hy]
 clear hf
 generalize runC c=rc at *
 have htl:=fdT_len rc l
 have hel:=fdE_len rc l
 have hts1:=fun {n:Nat} {x:Mm} h=>@fdT_succ _ rc l n x h
 have hes1:=fun {n:Nat} {x:Mm} h=>@fdE_succ _ rc l n x h
 have hta:=fun {i:Nat} {x:Mm} (hi:i<l.length) h=>@fdT_at _ rc l l.length i x hi h
 have hea:=fun {i:Nat} {x:Mm} (hi:i<l.length) h=>@fdE_at _ rc l l.length i x hi h
 have hT0:fdT rc l 0=[]:=rfl
 have hE0:fdE rc l 0=[]:=rfl
 generalize fdT rc l=TT at *
 generalize fdE rc l=EE at *
 generalize clrM secQ c.vars c.arrays=cl at *
 generalize memOK c.vars c.arrays=mo at *
 generalize codeOK c=co at *
 generalize fdP c l=P at *
 obtain ⟨vs,ar,li⟩:=c
 simp only [cdC,ints] at *
 refine dcZ Try.func19 ?_
 simp only [go_sem]
 iterate 4 ((try (refine drvZ Try.func19 ?_;simp only [go_sem,hrl]));((with_reducible and_intros)<;>try exact sd))
 refine Go.loopQ (fun i:Nat=>[(1,.c (.isl 2 rows)),(2,.c (.ptr 0 0)),(7,.c (.msl 64 1 0 i)),(8,.c (.msl 128 1 0 i)),(18,.c (.isl 2 rows)),(19,DI .i64 l.length),(20,DI .i64 i)]) (fun i=>[(0,some [isI vs,isI ar,.isl 5 (li.map inX)]),(64,some (trsC (TT i))),(128,some (boolsC (EE i)))]) 4096 (fun i=>i≤l.length) (fun i=>l.length - i) ?_ 0 (fun j=>if j=64 then none else if j=128 then none else some j) [] _ (Nat.zero_le _) ?_
 ·intro i hi again
  rcases Nat.lt_or_ge i l.length with hlt | hge
  ·obtain ⟨x,hx⟩:∃ x,l[i]? = some x:=⟨l[i],by simp [hlt]⟩
   have hxl:=hxs hx
   have hrx:=hrc x
   have ht1:=hts1 hx
   have he1:=hes1 hx
   have htn:=htl i
   have hen:=hel i
   have htn2:=trsC_len (TT i)
   have hen2:(boolsC (EE i)).length=(EE i).length:=by simp [boolsC]
   generalize rc x=rx at *
   obtain ⟨⟨ma,mr⟩,t1,e1⟩:=rx
   simp only at hrx ht1 he1
   obtain ⟨xa,xr⟩:=x
   have hm1:(i+1≤mx)=True:=eq_true (by rw [mx_eq];omega)
   have hm2:(1≤mx)=True:=eq_true (by rw [mx_eq];omega)
   refine drvL Try.func19 ?_
   simp only [go_sem,Mm.cells,hxl,hrl,hlt]
   iterate 10 ((try (refine drvZ Try.func19 ?_;simp only [go_sem,Mm.cells,hxl,hrl,hlt,htn,hen,htn2,hen2,hm1,hm2]));((with_reducible and_intros)<;>try exact sd);(try first | refine XK.p hrx ok58 ?_ | refine XK.gp hrx ok58 ?_))
   refine again (i+1) (fun j=>if j=64 then some 5312 else if j=128 then some 5568 else some j) [] _ (by omega) (by omega) ?_
   simp only [go_sem,TmOK,DM,DMs,CM,CMs,forall_eq,exists_eq_left,Mq,HpOK,LowOK,ht1,he1,trsC_snoc,boolsC_snoc]
   simp
   exact ⟨CMs.kf (kf_app (trsC_kf _) (by simp [kf,trD])),CMs.kf (kf_app (boolsC_kf _) (by simp [kf]))⟩
  ·have hn:¬ i<l.length:=by omega
   obtain rfl:i=l.length:=by omega
   refine drvL Try.func19 ?_
   simp only [go_sem,hn,hrl]
   iterate 4 ((try (refine drvZ Try.func19 ?_;simp only [go_sem,hn,hrl]));((with_reducible and_intros)<;>try exact sd))
   have htn:=htl l.length
   have hen:=hel l.length
   have htn2:=trsC_len (TT l.length)
   have hen2:(boolsC (EE l.length)).length=(EE l.length).length:=by simp [boolsC]
   clear hts1 hes1 hT0 hE0 again htl hel
   refine Go.loopQ (fun i:Nat=>[(1,.c (.isl 2 rows)),(2,.c (.ptr 0 0)),(7,.c (.msl 64 1 0 l.length)),(8,.c (.msl 128 1 0 l.length)),(41,DI .i64 l.length),(42,DI .i64 i)]) (fun i=>[(0,some [isI vs,isI ar,.isl 5 (li.map inX)]),(64,some (trsC (TT l.length))),(128,some (boolsC (EE l.length)))]) 8192 (fun i=>i≤i0) (fun i=>l.length - i) ?_ 0 some [] _ (Nat.zero_le _) ?_
   ·intro i hi again
    rcases Nat.lt_or_ge i l.length with hlt | hge
    ·obtain ⟨x,hx⟩:∃ x,l[i]? = some x:=⟨l[i],by simp [hlt]⟩
     have hxl:=hxs hx
     have hPx:=fun {k:Nat} {y:Mm} (h:l[k]? = some y)=>hP hx h
     have hokx:=hok x
     have hptx:=hpt x
     have hmsx:=hms x
     have htsx:=hts x
     have htx:=hta hlt hx
     have hex:=hea hlt hx
     generalize cl x=cx at *
     generalize rc x=rx at *
     obtain ⟨⟨ma,mr⟩,t1,e1⟩:=rx
     obtain ⟨ca,cr⟩:=cx
     simp only at hPx hokx hptx hmsx htsx htx hex
     have hkb:∃ kb:Nat,(i<i0→kb=l.length)∧(i=i0→kb=k0):=by
      by_cases h:i<i0
      ·exact ⟨l.length,fun _=>rfl,fun e=>by omega⟩
      ·exact ⟨k0,fun e=>by omega,fun _=>rfl⟩
     obtain ⟨kb,hkb1,hkb2⟩:=hkb
     have hkb3:kb≤l.length:=by
      rcases Nat.lt_or_ge i i0 with h | h
      ·rw [hkb1 h];exact Nat.le_refl _
      ·have e:i=i0:=by omega
       rw [hkb2 e];omega
     have step:∀ k,i<k→k≤kb→k<l.length→P i k=false→k+1≤kb:=fun k g1 g2 g3 g4=>by
      rcases Nat.lt_or_ge i i0 with h | h
      ·rw [hkb1 h];omega
      ·have e:i=i0:=by omega
       rw [hkb2 e] at g2 ⊢
       rcases Nat.lt_or_ge k k0 with h' | h'
       ·omega
       ·have e':k=k0:=by omega
        subst e e'
        rcases hyes with h'' | ⟨_,_,h''⟩
        ·omega
        ·rw [h''] at g4;cases g4
     have fin:∀ k,i<k→k≤kb→k<l.length→P i k=true→i=i0∧k=k0:=fun k g1 g2 g3 g4=>by
      have hn:=fun h=>hno i k g1 g3 h
      rw [g4] at hn
      rcases Nat.lt_or_ge i i0 with h | h
      ·exact absurd (hn (.inl h)) (by simp)
      ·have e:i=i0:=by omega
       refine ⟨e,?_⟩
       rw [hkb2 e] at g2
       rcases Nat.lt_or_ge k k0 with h' | h'
       ·exact absurd (hn (.inr ⟨e,h'⟩)) (by simp)
       ·omega
     have hmxx:e1=true→mo x=true:=fun h=>(hokx h).2
     have hcoo:e1=true→co=true:=fun h=>(hokx h).1
     obtain ⟨xa,xr⟩:=x
     refine drvL Try.func19 ?_
     simp only [go_sem,Mm.cells,hxl,hrl,hlt]
     iterate 6 ((try (refine drvZ Try.func19 ?_;simp only [go_sem,Mm.cells,hxl,hrl,hlt]));((with_reducible and_intros)<;>try exact sd))
     refine Go.loopQ (fun k:Nat=>[(1,.c (.isl 2 rows)),(2,.c (.ptr 0 0)),(7,.c (.msl 64 1 0 l.length)),(8,.c (.msl 128 1 0 l.length)),(41,DI .i64 l.length),(42,DI .i64 i),(14,DI .i64 i),(15,DI .i64 k)]) (fun k=>[(0,some [isI vs,isI ar,.isl 5 (li.map inX)]),(64,some (trsC (TT l.length))),(128,some (boolsC (EE l.length)))]) 16384 (fun k=>i<k∧k≤kb) (fun k=>l.length - k) ?_ (i+1) some [] _ ⟨by omega,by
      rcases Nat.lt_or_ge i i0 with h | h
      ·rw [hkb1 h];omega
      ·have e:i=i0:=by omega
       rw [hkb2 e];omega⟩ ?_
     ·intro k ⟨hik,hkk⟩ again2
      rcases Nat.lt_or_ge k l.length with hkl | hkg
      ·obtain ⟨y,hy⟩:∃ y,l[k]? = some y:=⟨l[k],by simp [hkl]⟩
       have hyl:=hxs hy
       have hPy:=hPx hy
       have hoky:=hok y
       have hpty:=hpt y
       have hmsy:=hmsx y
       have htsy:=htsx y
       have hty:=hta hkl hy
       have hey:=hea hkl hy
       have step:=step k hik hkk hkl
       have fin:=fin k hik hkk hkl
       rw [hPy] at step fin
       generalize cl y=cy at *
       generalize rc y=ry at *
       generalize mo y=fy at *
       obtain ⟨⟨mb,ms⟩,t2,e2⟩:=ry
       obtain ⟨cb,cs⟩:=cy
       generalize hqs:memSame ⟨ca,cr⟩ ⟨cb,cs⟩=qs at *
       simp only at hoky htsy step fin hmsy hty hey
       generalize hqt:trSame t1 t2=qt at *
       obtain ⟨ya,yr⟩:=y
       cases e1 with
       | false =>
        refine drvL Try.func19 ?_
        simp only [go_sem,Mm.cells,hyl,hrl,hkl,hxl,hlt,htx,hex,hty,hey,htn,hen,htn2,hen2]
        iterate 8 ((try (refine drvZ Try.func19 ?_;simp only [go_sem,Mm.cells,hyl,hrl,hkl,hxl,hlt,htx,hex,hty,hey,htn,hen,htn2,hen2]));((with_reducible and_intros)<;>try exact sd);(try first | refine XK.gs (DB false) ?_))
        refine again2 (k+1) some [] _ ⟨by omega,step (by simp)⟩ (by omega) ?_
        simp only [go_sem,TmOK,DM,DMs,CM,CMs,forall_eq,exists_eq_left,Mq,HpOK,LowOK]
        simp
        exact ⟨CMs.kf (trsC_kf _),CMs.kf (boolsC_kf _)⟩
       | true =>
        have hco:=hcoo rfl
        have hmx1:=hmxx rfl
        have hptx:=hptx hco hmx1
        cases e2 with
        | false =>
         refine drvL Try.func19 ?_
         simp only [go_sem,Mm.cells,hyl,hrl,hkl,hxl,hlt,htx,hex,hty,hey,htn,hen,htn2,hen2]
         iterate 8 ((try (refine drvZ Try.func19 ?_;simp only [go_sem,Mm.cells,hyl,hrl,hkl,hxl,hlt,htx,hex,hty,hey,htn,hen,htn2,hen2]));((with_reducible and_intros)<;>try exact sd);(try first | refine XK.gs (DB false) ?_))
         refine again2 (k+1) some [] _ ⟨by omega,step (by simp)⟩ (by omega) ?_
         simp only [go_sem,TmOK,DM,DMs,CM,CMs,forall_eq,exists_eq_left,Mq,HpOK,LowOK]
         simp
         exact ⟨CMs.kf (trsC_kf _),CMs.kf (boolsC_kf _)⟩
        | true =>
         have hpty:=hpty hco (hoky rfl).2
         have hmsy:=hmsy hco hmx1
         cases qt with
         | true =>
          refine drvL Try.func19 ?_
          simp only [go_sem,Mm.cells,hyl,hrl,hkl,hxl,hlt,htx,hex,hty,hey,htn,hen,htn2,hen2]
          iterate 8 ((try (refine drvZ Try.func19 ?_;simp only [go_sem,Mm.cells,hyl,hrl,hkl,hxl,hlt,htx,hex,hty,hey,htn,hen,htn2,hen2]));((with_reducible and_intros)<;>try exact sd);(try first | refine XK.p htsy ok59 ?_ | refine XK.gp htsy ok59 ?_))
          refine again2 (k+1) some [] _ ⟨by omega,step (by simp)⟩ (by omega) ?_
          simp only [go_sem,TmOK,DM,DMs,CM,CMs,forall_eq,exists_eq_left,Mq,HpOK,LowOK]
          simp
          exact ⟨CMs.kf (trsC_kf _),CMs.kf (boolsC_kf _)⟩
         | false =>
          cases qs with
          | false =>
           refine drvL Try.func19 ?_
           simp only [go_sem,Mm.cells,hyl,hrl,hkl,hxl,hlt,htx,hex,hty,hey,htn,hen,htn2,hen2]
           iterate 10 ((try (refine drvZ Try.func19 ?_;simp only [go_sem,Mm.cells,hyl,hrl,hkl,hxl,hlt,htx,hex,hty,hey,htn,hen,htn2,hen2]));((with_reducible and_intros)<;>try exact sd);(try first | refine XK.p htsy ok59 ?_ | refine XK.gp htsy ok59 ?_ | refine XK.p hptx ok76 ?_ | refine XK.gp hptx ok76 ?_ | refine XK.p hpty ok76 ?_ | refine XK.gp hpty ok76 ?_ | refine XK.p hmsy ok78 ?_ | refine XK.gp hmsy ok78 ?_))
           refine again2 (k+1) some [] _ ⟨by omega,step (by simp)⟩ (by omega) ?_
           simp only [go_sem,TmOK,DM,DMs,CM,CMs,forall_eq,exists_eq_left,Mq,HpOK,LowOK]
           simp
           exact ⟨CMs.kf (trsC_kf _),CMs.kf (boolsC_kf _)⟩
          | true =>
           obtain ⟨rfl,rfl⟩:=fin (by simp)
           refine drvL Try.func19 ?_
           simp only [go_sem,Mm.cells,hyl,hrl,hkl,hxl,hlt,htx,hex,hty,hey,htn,hen,htn2,hen2]
           iterate 16 ((try (refine drvZ Try.func19 ?_;simp only [go_sem,Mm.cells,hyl,hrl,hkl,hxl,hlt,htx,hex,hty,hey,htn,hen,htn2,hen2]));((with_reducible and_intros)<;>try exact sd);(try first | refine XK.p htsy ok59 ?_ | refine XK.gp htsy ok59 ?_ | refine XK.p hptx ok76 ?_ | refine XK.gp hptx ok76 ?_ | refine XK.p hpty ok76 ?_ | refine XK.gp hpty ok76 ?_ | refine XK.p hmsy ok78 ?_ | refine XK.gp hmsy ok78 ?_))
           exact ret2 _ (by omega)
      ·have hii:i<i0:=by
        rcases Nat.lt_or_ge i i0 with h | h
        ·exact h
        ·have e:i=i0:=by omega
         have:=hkb2 e
         omega
       have hn:¬ k<l.length:=by omega
       refine drvL Try.func19 ?_
       simp only [go_sem,hn,hrl]
       iterate 4 ((try (refine drvZ Try.func19 ?_;simp only [go_sem,hn,hrl]));((with_reducible and_intros)<;>try exact sd))
       refine again (i+1) some [] _ (by omega) (by omega) ?_
       simp only [go_sem,TmOK,DM,DMs,CM,CMs,forall_eq,exists_eq_left,Mq,HpOK,LowOK]
       simp
       exact ⟨CMs.kf (trsC_kf _),CMs.kf (boolsC_kf _)⟩
     ·simp only [go_sem,TmOK,DM,DMs,CM,CMs,forall_eq,exists_eq_left,Mq,HpOK,LowOK]
      simp
      exact ⟨CMs.kf (trsC_kf _),CMs.kf (boolsC_kf _)⟩
    ·have hn:¬ l.length<l.length:=by omega
     obtain rfl:i=l.length:=by omega
     refine drvL Try.func19 ?_
     simp only [go_sem,hn,hrl]
     iterate 4 ((try (refine drvZ Try.func19 ?_;simp only [go_sem,hn,hrl]));((with_reducible and_intros)<;>try exact sd))
     exact ret1 _ (by omega)
   ·simp only [go_sem,TmOK,DM,DMs,CM,CMs,forall_eq,exists_eq_left,Mq,HpOK,LowOK]
    simp
    exact ⟨CMs.kf (trsC_kf _),CMs.kf (boolsC_kf _)⟩
 ·simp only [go_sem,TmOK,DM,DMs,CM,CMs,forall_eq,exists_eq_left,Mq,HpOK,LowOK,hT0,hE0,trsC,boolsC]
  simp
open CtL (In Cd codeOK runC)
theorem rd_one {I:Nat→Prop} {w:World} {s:Sg} {v:Value} {c:C} (hv:v.cells=#[v]) (h:RCl I w v.cells.toList [c]):RD I w s v (.c c) :=
 .c _ _ ((h.2 0 v c (by rw [hv];rfl) rfl).mono (fun _ h=>h) (fun _ _=>rfl) (Shp.refl _) (Sg0.le _))
theorem szML_le : ∀ l : List Mm, l.length ≤ szML l ∧ ∀ m ∈ l, szM m ≤ szML l
 | []=>⟨by simp,by simp⟩
 | a :: r=>by
  obtain ⟨h1,h2⟩:=szML_le r
  simp only [szML,List.length_cons,List.mem_cons]
  refine ⟨by omega,fun m hm=>?_⟩
  rcases hm with rfl | hm
  ·omega
  ·have:=h2 m hm;omega
theorem lawXFind (p:Cd) (l:List Mm) (hp:CdB p) (hll:l.length≤mx) (hm:∀ m ∈ l,MmB m):DC Try.prog 3 [.agg (cdC p),.c (.isl 2 (l.map Mm.cells))] [] (fun d h=>d=DB true∧h=[]):=by
 have hmx:=mx_eq
 have ret:∀ hp:Hp,RetOb 0 (fun d h=>d=DB true∧h=[]) (DB true) hp:=fun hp=>RetOb.plain (d:=DB true) ⟨rfl,rfl⟩ rfl
 generalize hRR:(fun (d:D) (h:List (Option (List C)))=>d=DB true∧h=[])=R at ret ⊢
 have z1:=szCode_c p hp 1048576 (by omega) (by omega)
 by_cases q1:((szC p:Nat):Int)≤1048576
 ·rw [subZ,if_pos q1] at z1
  have g1:((1048576:Int) - (szC p:Int)<0)=False:=eq_false (by omega)
  have z2:=szMemoryS_c l hll hm (1048576 - (szC p:Int)) (by omega) (by omega)
  by_cases q2:((szML l:Nat):Int)≤1048576 - (szC p:Int)
  ·rw [subZ,if_pos q2] at z2
   have g2:((1048576:Int) - (szC p:Int) - (szML l:Int)<0)=False:=eq_false (by omega)
   have np:=cdN_of (c:=p) (by omega)
   obtain ⟨b1,b2⟩:=szML_le l
   have c1:=toCode_c p np
   have c2:=toMemoryS_c l (by omega) (fun m h=>mmN_of (m:=m) (by have:=b2 m h;omega))
   have e1:=eqCode_c p hp
   have e2:=eqMemoryS_c l hll hm
   obtain ⟨i0,k0,hf⟩:=fd_ex p l
   have hbs:=findS p l i0 k0 (by have:=np.nv;omega) (by have:=np.na;omega) (by have:=np.nl;omega) (by omega) hf
   have hbi:=findI p l i0 k0 (by have:=np.nv;omega) (by have:=np.na;omega) (by have:=np.nl;omega) (by omega) hf
   have hR2:∃ (a b:Int) (t:Bool),fdR l i0 k0 = .tup [DI .i64 a,DI .i64 b,DB t]:=by
    unfold fdR
    split
    ·exact ⟨_,_,_,rfl⟩
    ·exact ⟨_,_,_,rfl⟩
   obtain ⟨a,b,t,hR2⟩:=hR2
   rw [hR2] at hbs hbi
   clear hR2 hf np b1 b2 hp hm
   generalize szC p=s1 at *
   generalize szML l=s2 at *
   generalize l.map Mm.cells=rows at *
   obtain ⟨vs,ar,li⟩:=p
   simp only [cdC] at *
   refine dcZ Try.func3 ?_
   simp only [go_sem,g1,g2,bne_self_eq_false]
   iterate 50 ((try (refine drvZ Try.func3 ?_;simp only [go_sem,g1,g2,bne_self_eq_false]));((with_reducible and_intros)<;>try exact sd);(try first | refine XK.p z1 ok14 ?_ | refine XK.gp z1 ok14 ?_ | refine XK.p z2 ok15 ?_ | refine XK.gp z2 ok15 ?_ | refine XK.p c1 ok17 ?_ | refine XK.gp c1 ok17 ?_ | refine XK.p c2 ok18 ?_ | refine XK.gp c2 ok18 ?_ | refine XK.p hbs ok16 ?_ | refine XK.gp hbs ok16 ?_ | refine XK.p hbi ok19 ?_ | refine XK.gp hbi ok19 ?_ | refine XK.p e1 ok20 ?_ | refine XK.gp e1 ok20 ?_ | refine XK.p e2 ok21 ?_ | refine XK.gp e2 ok21 ?_))
   exact ret _
  ·rw [subZ,if_neg q2] at z2
   clear hp hm q1 q2
   generalize szC p=s1 at *
   generalize l.map Mm.cells=rows at *
   obtain ⟨vs,ar,li⟩:=p
   simp only [cdC] at *
   refine dcZ Try.func3 ?_
   simp only [go_sem,g1]
   iterate 12 ((try (refine drvZ Try.func3 ?_;simp only [go_sem,g1]));((with_reducible and_intros)<;>try exact sd);(try first | refine XK.p z1 ok14 ?_ | refine XK.gp z1 ok14 ?_ | refine XK.p z2 ok15 ?_ | refine XK.gp z2 ok15 ?_))
   exact ret _
 ·rw [subZ,if_neg q1] at z1
  clear hp hm q1
  generalize l.map Mm.cells=rows at *
  obtain ⟨vs,ar,li⟩:=p
  simp only [cdC] at *
  refine dcZ Try.func3 ?_
  simp only [go_sem]
  iterate 6 ((try (refine drvZ Try.func3 ?_;simp only [go_sem]));((with_reducible and_intros)<;>try exact sd);(try first | refine XK.p z1 ok14 ?_ | refine XK.gp z1 ok14 ?_))
  exact ret _
end Go.Proofs.Ytddanjifhdaebaa.CtD
