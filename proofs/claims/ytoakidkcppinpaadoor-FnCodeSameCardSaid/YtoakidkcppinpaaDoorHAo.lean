/- Contracts of functions of the program, one behind the other, as plain data: what each call returns and which blocks it leaves. -/
import Derived.Lib.AppendIntMem
import Derived.Lib.LaidTab
import Derived.Test.YtoakidkcppinpaaDoorHFacts
import Derived.Test.YtoakidkcppinpaaDoorHAj
import Derived.Test.YtoakidkcppinpaaDoorHAk
import Derived.Test.YtoakidkcppinpaaDoorHAl
import Derived.Test.YtoakidkcppinpaaDoorHAm
import Derived.Test.YtoakidkcppinpaaDoorHAn
import Derived.Test.YtoakidkcppinpaaDoorHXb
set_option linter.unusedVariables false
set_option linter.unusedSimpArgs false
set_option linter.unusedSectionVars false
set_option maxHeartbeats 16000000
set_option maxRecDepth 100000
namespace Go.Proofs.YtoakidkcppinpaaDoor.CtD
open Go Go.CT CtF CtR
variable [Yn]
open CtL (In Cd)
theorem RetOb.cdK {R : D → List (Option (List C)) → Prop} {c : Cd} {hp : Hp} {k0 k1 k2 nv na nb : Nat} {rc : List C} (hR : R (.agg (cdC c)) [some rc]) (hrc : ∀ c ∈ rc, kf c = true)
 (hz:hp 0=some (some rc)) (h0:hp k0=some (some (c.vars.map I64))) (h1:hp k1=some (some (c.arrays.map I64))) (h2:hp k2=some (some (inC c.list))) (hv:nv=c.vars.length) (ha:na=c.arrays.length) (hb:nb=c.list.length)
 (hne:0 ≠ k0∧0 ≠ k1∧0 ≠ k2):RetOb 1 R (.agg [.msl k0 1 0 nv,.msl k1 1 0 na,.msl k2 5 0 nb]) hp:=by
 subst hv ha hb
 obtain ⟨vs,ar,l⟩:=c
 obtain ⟨n0,n1,n2⟩:=hne
 refine RetOb.ofQ (fun j=>if j=0 then some 0 else none) [k0,k1,k2] _ [some rc] ?_ hR (by simp)
 have e4:∀ {hT hS:Hp} {r:Nat→Option Nat} {fz:List Nat},CMs hT r hS fz rc rc=True:=eq_true (CMs.kf hrc)
 have g2:=in_len5 l
 have g3:=in_kf5 l
 simp [-List.mem_map,enumL,DM,DMs,CM,CMs,HpOK,LowOK,hOf,upd,cdC,isI,flat_I,kf,e4,hz,h0,h1,h2,in_flat,n0,n1,n2]
 first | exact ⟨⟨I_len1 _,I_kf1 _⟩,⟨I_len1 _,I_kf1 _⟩,g2,g3⟩ | exact ⟨g2,g3⟩
theorem inC_split {l:List In} {i:Nat} {x:In} (h:l[i]? = some x):inC l=inC (l.take i)++inX x++inC (l.drop (i+1)):=by
 have hi:i<l.length:=(List.getElem?_eq_some_iff.1 h).1
 have hx:l[i]=x:=(List.getElem?_eq_some_iff.1 h).2
 conv=>lhs;rw [← List.take_append_drop i l,List.drop_eq_getElem_cons hi,hx]
 rw [inC_app,inC_cons]
 simp
theorem inC_setAt {l:List In} {i:Nat} {x:In} (h:l[i]? = some x) (y:In):inC (l.set i y)=inC (l.take i)++inX y++inC (l.drop (i+1)):=by
 have hi:i<l.length:=(List.getElem?_eq_some_iff.1 h).1
 have h2:(l.set i y)[i]? = some y:=List.getElem?_set_self hi
 rw [inC_split h2,List.take_set_of_le (Nat.le_refl _),List.drop_set_of_lt (by omega)]
theorem inC_put {l:List In} {i:Nat} {x:In} (h:l[i]? = some x) (y:In):putCells (inC l) (i * 5) (inX y)=inC (l.set i y):=by
 have hi:i<l.length:=(List.getElem?_eq_some_iff.1 h).1
 have hlen:(inC (l.take i)).length=i * 5:=by rw [inC_len,List.length_take,Nat.min_eq_left (by omega)]
 rw [inC_split h,inC_setAt h,← hlen,List.append_assoc,put_at _ _ _ (by simp [inX])]
 simp [inX]
theorem inC_put1 {l:List In} {i:Nat} {x:In} (h:l[i]? = some x) (j:Nat) (hj:j<5) (v:Int):∃ y:In,(inC l).set (i * 5+j) (I64 v)=inC (l.set i y):=by
 have hi:i<l.length:=(List.getElem?_eq_some_iff.1 h).1
 have hlen:(inC (l.take i)).length=i * 5:=by rw [inC_len,List.length_take,Nat.min_eq_left (by omega)]
 have key:∀ y:In,(inX x).set j (I64 v)=inX y→(inC l).set (i * 5+j) (I64 v)=inC (l.set i y):=fun y hy=>by
  rw [inC_setAt h,inC_split h,List.append_assoc,← hlen,List.set_append_right _ _ (by omega),Nat.add_sub_cancel_left,List.set_append_left _ _ (by simp [inX];omega),hy,List.append_assoc]
 obtain ⟨op,a,b,c,d⟩:=x
 match j,hj with
 | 0,_=>exact ⟨⟨v,a,b,c,d⟩,key _ rfl⟩
 | 1,_=>exact ⟨⟨op,v,b,c,d⟩,key _ rfl⟩
 | 2,_=>exact ⟨⟨op,a,v,c,d⟩,key _ rfl⟩
 | 3,_=>exact ⟨⟨op,a,b,v,d⟩,key _ rfl⟩
 | 4,_=>exact ⟨⟨op,a,b,c,v⟩,key _ rfl⟩
def muC (bs:List Int) (n:Nat) (r:D) (h:List (Option (List C))):Prop:=∃ c:Cd,r = .agg (cdC c)∧c.vars.length≤13∧c.arrays.length≤2∧c.list.length≤400∧rdL bs n 5 h
theorem l6Mutate (bs : List Int) (n : Nat) (c : Cd) (hb : Fits .u8 bs) (hl : bs.length ≤ 2000) (hn : n ≤ 274877906944) (hv : c.vars.length ≤ 13) (ha : c.arrays.length ≤ 2) (hcl : c.list.length ≤ 400) :
 DC Tryd.prog 27 [.c (.ptr 0 0),.agg (cdC c)] [some (rdr bs n)] (muC bs n):=by
 have hmx:=mx_eq
 generalize hR:muC bs n=R
 obtain ⟨vs,ar,l⟩:=c
 simp only at hv ha hcl
 unfold cdC
 have hfin:∀ (kv ka kl nv na nl:Nat) (n':Nat) (vs':List Int) (l':List In) (hp:Hp),vs'.length≤13→l'.length≤400→n≤n'→n'≤n+5→hp 0=some (some (rdr bs n'))→hp kv=some (some (vs'.map I64))→hp ka=some (some (ar.map I64))→hp kl=some (some (inC l'))→nv=vs'.length→na=ar.length→nl=l'.length →
  (0 ≠ kv∧0 ≠ ka∧0 ≠ kl)→RetOb 1 R (.agg [.msl kv 1 0 nv,.msl ka 1 0 na,.msl kl 5 0 nl]) hp:=fun kv ka kl nv na nl n' vs' l' hp g1 g2 g3 g4 g5 g6 g7 g8 g9 g10 g11 g12 =>
  RetOb.cdK (c:=⟨vs',ar,l'⟩) (by rw [← hR];exact ⟨⟨vs',ar,l'⟩,rfl,g1,ha,g2,n',g3,g4,rfl⟩) (rdr_kf bs n') g5 g6 g7 g8 g9 g10 g11 g12
 have hil:=inC_len l
 by_cases h0:l.length=0
 ·have e0:((l.length:Int) == 0)=true:=by simp [h0]
  refine dcZ Tryd.func27 ?_
  simp only [go_sem,rdr,flat_I',in_flat,e0]
  iterate 5 ((try (refine drvZ Tryd.func27 ?_;simp only [go_sem,rdr,flat_I',in_flat,e0]));((with_reducible and_intros)<;>try exact sd))
  exact hfin 321 577 833 _ _ _ n vs l _ hv hcl (by omega) (by omega) rfl rfl rfl rfl rfl rfl rfl (by decide)
 have e0:((l.length:Int) == 0)=false:=by simp only [beq_eq_false_iff_ne,ne_eq];omega
 obtain ⟨k,hk⟩:∃ k,l.length=k+1:=⟨l.length - 1,by omega⟩
 have hk1:(l.length:Int) - 1=(k:Int):=by omega
 have hkl:k<l.length:=by omega
 obtain ⟨xk,hxk⟩:∃ x,l[k]? = some x:=⟨l[k],by simp [hkl]⟩
 obtain ⟨x0,hx0⟩:∃ x,l[0]? = some x:=⟨l[0]'(by omega),by simp⟩
 refine dcZ Tryd.func27 ?_
 simp only [go_sem,rdr,flat_I',in_flat,e0]
 iterate 5 ((try (refine drvZ Tryd.func27 ?_;simp only [go_sem,rdr,flat_I',in_flat,e0]));((with_reducible and_intros)<;>try exact sd))
 refine XK.callG [0] (pick bs n 60 hb hl (by omega) (by simp only [InK];omega)) ok26 (hhp_one rfl) (hbT ()) (fun d h' ⟨v,_,_,e⟩=>by subst e;simp) ?_
 rintro _ _ ⟨v,rfl,hpv,rfl⟩ _
 clear hpv
 have hpv:v=0∨v=1∨v=2∨v=3∨v=4∨v=5∨(v ≠ 0∧v ≠ 1∧v ≠ 2∧v ≠ 3∧v ≠ 4∧v ≠ 5):=by omega
 rcases hpv with rfl | rfl | rfl | rfl | rfl | rfl | ⟨n0,n1,n2,n3,n4,n5⟩
 ·iterate 4 ((try (refine drvZ Tryd.func27 ?_;simp only [go_sem,rdr]));((with_reducible and_intros)<;>try exact sd))
  refine XK.callG [0,1921] (numO bs (n+1) [0,14,1,12] hb hl (by omega) (by decide) (by decide)) ok49 (hhp2 rfl rfl) (hbT ()) (fun d h' ⟨_,_,_,e⟩=>by subst e;simp) ?_ (fun _=>⟨by kernel_rfl,_,_,⟨0,rfl,by simp,rfl⟩,by simp⟩)
  rintro _ _ ⟨w,rfl,hw,rfl⟩ _
  clear hw
  obtain ⟨y,hy⟩:=inC_put1 hx0 0 (by omega) w
  simp only [Nat.zero_mul,Nat.add_zero] at hy
  iterate 5 ((try (refine drvZ Tryd.func27 ?_;simp only [go_sem,rdr,hy]));((with_reducible and_intros)<;>try exact sd))
  exact hfin 321 577 833 _ _ _ (n+2) vs (l.set 0 y) _ hv (by simp;omega) (by omega) (by omega) rfl rfl rfl rfl rfl rfl (by simp) (by decide)
 ·iterate 4 ((try (refine drvZ Tryd.func27 ?_;simp only [go_sem,rdr]));((with_reducible and_intros)<;>try exact sd))
  refine XK.callG [0] (pick bs (n+1) l.length hb hl (by omega) (by simp only [InK];omega)) ok26 (hhp_one rfl) (hbT ()) (fun d h' ⟨v,_,_,e⟩=>by subst e;simp) ?_ (fun _=>⟨by kernel_rfl,_,_,⟨0,rfl,by omega,rfl⟩,by simp⟩)
  rintro _ _ ⟨q,rfl,hq,rfl⟩ _
  have hq2:0≤q∧q<l.length:=by omega
  obtain ⟨i,rfl⟩:∃ i:Nat,q=i:=⟨q.toNat,by omega⟩
  have hil2:i<l.length:=by omega
  obtain ⟨xi,hxi⟩:∃ x,l[i]? = some x:=⟨l[i],by simp [hil2]⟩
  iterate 4 ((try (refine drvZ Tryd.func27 ?_;simp only [go_sem,rdr,hil2]));((with_reducible and_intros)<;>try exact sd))
  refine XK.callG [0,2241] (numO bs (n+2) [-1,14,0,400] hb hl (by omega) (by decide) (by decide)) ok49 (hhp2 rfl rfl) (hbT ()) (fun d h' ⟨_,_,_,e⟩=>by subst e;simp) ?_ (fun _=>⟨by kernel_rfl,_,_,⟨-1,rfl,by simp,rfl⟩,by simp⟩)
  rintro _ _ ⟨w,rfl,hw,rfl⟩ _
  clear hw
  obtain ⟨y,hy⟩:=inC_put1 hxi 1 (by omega) w
  iterate 6 ((try (refine drvZ Tryd.func27 ?_;simp only [go_sem,rdr,hil2,hy]));((with_reducible and_intros)<;>try exact sd))
  exact hfin 321 577 833 _ _ _ (n+3) vs (l.set i y) _ hv (by simp;omega) (by omega) (by omega) rfl rfl rfl rfl rfl rfl (by simp) (by decide)
 ·iterate 6 ((try (refine drvZ Tryd.func27 ?_;simp only [go_sem,rdr,hk1,hkl]));((with_reducible and_intros)<;>try exact sd))
  have hput:=inC_put hxk ⟨12,0,0,0,0⟩
  simp only [putCells,inX] at hput
  exact hfin 321 577 833 _ _ _ (n+1) vs (l.set k ⟨12,0,0,0,0⟩) _ hv (by simp;omega) (by omega) (by omega) rfl rfl rfl (congrArg (fun x=>some (some x)) hput) rfl rfl (by simp) (by decide)
 ·iterate 6 ((try (refine drvZ Tryd.func27 ?_;simp only [go_sem,rdr,hk1,hkl]));((with_reducible and_intros)<;>try exact sd))
  have hput:=inC_put hxk ⟨8,0,0,0,0⟩
  simp only [putCells,inX] at hput
  exact hfin 321 577 833 _ _ _ (n+1) vs (l.set k ⟨8,0,0,0,0⟩) _ hv (by simp;omega) (by omega) (by omega) rfl rfl rfl (congrArg (fun x=>some (some x)) hput) rfl rfl (by simp) (by decide)
 ·iterate 6 ((try (refine drvZ Tryd.func27 ?_;simp only [go_sem,rdr]));((with_reducible and_intros)<;>try exact sd))
  refine XK.callG [0] (pick bs (n+1) l.length hb hl (by omega) (by simp only [InK];omega)) ok26 (hhp_one rfl) (hbT ()) (fun d h' ⟨v,_,_,e⟩=>by subst e;simp) ?_ (fun _=>⟨by kernel_rfl,_,_,⟨0,rfl,by omega,rfl⟩,by simp⟩)
  rintro _ _ ⟨q,rfl,hq,rfl⟩ _
  have hq2:0≤q∧q<l.length:=by omega
  obtain ⟨i,rfl⟩:∃ i:Nat,q=i:=⟨q.toNat,by omega⟩
  have hil2:i<l.length:=by omega
  obtain ⟨xi,hxi⟩:∃ x,l[i]? = some x:=⟨l[i],by simp [hil2]⟩
  iterate 4 ((try (refine drvZ Tryd.func27 ?_;simp only [go_sem,rdr,hil2]));((with_reducible and_intros)<;>try exact sd))
  refine XK.callG [0,2625] (numO bs (n+2) [1,-1] hb hl (by omega) (by decide) (by decide)) ok49 (hhp2 rfl rfl) (hbT ()) (fun d h' ⟨_,_,_,e⟩=>by subst e;simp) ?_ (fun _=>⟨by kernel_rfl,_,_,⟨1,rfl,by simp,rfl⟩,by simp⟩)
  rintro _ _ ⟨w,rfl,hw,rfl⟩ _
  clear hw
  obtain ⟨y,hy⟩:=inC_put1 hxi 4 (by omega) w
  iterate 6 ((try (refine drvZ Tryd.func27 ?_;simp only [go_sem,rdr,hil2,hy]));((with_reducible and_intros)<;>try exact sd))
  exact hfin 321 577 833 _ _ _ (n+3) vs (l.set i y) _ hv (by simp;omega) (by omega) (by omega) rfl rfl rfl rfl rfl rfl (by simp) (by decide)
 ·iterate 8 ((try (refine drvZ Tryd.func27 ?_;simp only [go_sem,rdr]));((with_reducible and_intros)<;>try exact sd))
  exact hfin 2369 577 833 _ _ _ (n+1) [] l _ (by simp) hcl (by omega) (by omega) rfl rfl rfl rfl rfl rfl rfl (by decide)
 ·have e0:(v == 0)=false:=by simp [n0]
  have e1:(v == 1)=false:=by simp [n1]
  have e2:(v == 2)=false:=by simp [n2]
  have e3:(v == 3)=false:=by simp [n3]
  have e4:(v == 4)=false:=by simp [n4]
  have e5:(v == 5)=false:=by simp [n5]
  iterate 10 ((try (refine drvZ Tryd.func27 ?_;simp only [go_sem,rdr,e0,e1,e2,e3,e4,e5]));((with_reducible and_intros)<;>try exact sd))
  exact hfin 321 577 833 _ _ _ (n+1) vs l _ hv hcl (by omega) (by omega) rfl rfl rfl rfl rfl rfl rfl (by decide)
open CtL (In Cd)
open CtL (In Cd kindsOf)
theorem l6RandomV (bs : List Int) (n : Nat) (vs ar : Sl) (LC : List C) (m at_ N : Nat) (hb : Fits .u8 bs) (hl : bs.length ≤ 2000) (hn : n ≤ 274877906944) (hv : 1 ≤ vs.length ∧ vs.length ≤ 13) (ha : ar.length ≤ 2) (hat : at_ + 1 < N) (hN : N ≤ 13) (hLC : ∀ c ∈ LC, kf c = true) :
 DC Tryd.prog 50 [.c (.ptr 0 0),.agg [vs.c,ar.c,.msl 1 5 0 m],DI .i64 at_,DI .i64 N] [some (rdr bs n),some LC] (rnR bs n LC):=by
 have hmx:=mx_eq
 have hval:=fun n h=>l3Value bs n hb hl h
 have hnum:=num bs n [1,2,3,6,2,7,9,4,5,11,8,12] hb hl (by omega) (by decide) (by decide)
 generalize hR:rnR bs n LC=R
 refine dcZ Tryd.func50 ?_
 simp only [go_sem,rdr]
 iterate 2 ((try (refine drvZ Tryd.func50 ?_;simp only [go_sem,rdr]));((with_reducible and_intros)<;>try exact sd))
 refine XK.callG [0,194] (numO bs n [1,2,3,6,2,7,9,4,5,11,8,12] hb hl (by omega) (by decide) (by decide)) ok49 (hhp2 rfl rfl) (hbT ()) (fun d h' ⟨_,_,_,e⟩=>by subst e;simp) ?_
 rintro _ _ ⟨o,rfl,ho,rfl⟩ _
 have ho2:1≤o∧o≤13:=by simp at ho;omega
 have hfd:=fun (op:Int) h=>l6FieldsS op h
 have cs4:(ar.length=0∧o=4)∨(ar.length=0∧o=5)∨(ar.length=0∧o ≠ 4∧o ≠ 5)∨ar.length ≠ 0:=by omega
 rcases cs4 with ⟨h0,rfl⟩ | ⟨h0,rfl⟩ | ⟨h0,h4,h5⟩ | h0
 case' inl =>
  have e0:((ar.length:Int) == 0)=true:=by simp [h0]
  have hfo:=hfd 2 (by omega)
  iterate 5 ((try (refine drvZ Tryd.func50 ?_;simp only [go_sem,rdr,e0]));((with_reducible and_intros)<;>try exact sd);(try first | refine XK.p hfo ok36 ?_ | refine XK.gp hfo ok36 ?_))
  refine Go.loopQ (fun x : Nat × Nat × List Int × Int => [(0, .c (.ptr 0 0)), (2, DI .i64 at_), (3, DI .i64 N), (5, .c (.ptr 2 0)), (8, .c (.ptr 66 0)), (9, .c (.ptr 386 0)), (10, DS (sls x.2.2.2)), (11, .c (.msl 20 1 0 4)), (12, DI .i64 x.1)])
   (fun x=>[(0,some (rdr bs x.2.1)),(1,some LC),(2,some [vs.c,ar.c,.msl 1 5 0 m]),(20,some (x.2.2.1.map I64)),(66,some [I64 0,I64 0,I64 0,I64 0,I64 0]),(386,some [I64 x.2.2.2,I64 0,I64 0,I64 0,I64 0])])
   8192 (fun x=>x.1≤4∧n+1≤x.2.1∧x.2.1≤n+1+x.1∧x.2.2.1.length=4∧(1≤x.2.2.2∧x.2.2.2≤13)∧True) (fun x=>4 - x.1) ?_ (0,n+1,[0,0,0,0],2) (fun j=>if j=20 then some 1794 else some j) [] _ ⟨by simp,by simp,by simp,rfl,by simp,trivial⟩ ?_
  case' refine_2 =>
   simp only [go_sem,TmOK,DM,DMs,CM,CMs,forall_eq,exists_eq_left,Mq,HpOK,LowOK,rdr]
   simp [CMs,hOf,hpL]
   try exact CMs.kf hLC
 case' inr.inl =>
  have e0:((ar.length:Int) == 0)=true:=by simp [h0]
  have hfo:=hfd 2 (by omega)
  iterate 5 ((try (refine drvZ Tryd.func50 ?_;simp only [go_sem,rdr,e0]));((with_reducible and_intros)<;>try exact sd);(try first | refine XK.p hfo ok36 ?_ | refine XK.gp hfo ok36 ?_))
  refine Go.loopQ (fun x : Nat × Nat × List Int × Int => [(0, .c (.ptr 0 0)), (2, DI .i64 at_), (3, DI .i64 N), (5, .c (.ptr 2 0)), (8, .c (.ptr 66 0)), (9, .c (.ptr 386 0)), (10, DS (sls x.2.2.2)), (11, .c (.msl 20 1 0 4)), (12, DI .i64 x.1)])
   (fun x=>[(0,some (rdr bs x.2.1)),(1,some LC),(2,some [vs.c,ar.c,.msl 1 5 0 m]),(20,some (x.2.2.1.map I64)),(66,some [I64 0,I64 0,I64 0,I64 0,I64 0]),(386,some [I64 x.2.2.2,I64 0,I64 0,I64 0,I64 0])])
   8192 (fun x=>x.1≤4∧n+1≤x.2.1∧x.2.1≤n+1+x.1∧x.2.2.1.length=4∧(1≤x.2.2.2∧x.2.2.2≤13)∧True) (fun x=>4 - x.1) ?_ (0,n+1,[0,0,0,0],2) (fun j=>if j=20 then some 1794 else some j) [] _ ⟨by simp,by simp,by simp,rfl,by simp,trivial⟩ ?_
  case' refine_2 =>
   simp only [go_sem,TmOK,DM,DMs,CM,CMs,forall_eq,exists_eq_left,Mq,HpOK,LowOK,rdr]
   simp [CMs,hOf,hpL]
   try exact CMs.kf hLC
 case' inr.inr.inl =>
  have e0:((ar.length:Int) == 0)=true:=by simp [h0]
  have e4:(o == 4)=false:=by simp [h4]
  have e5:(o == 5)=false:=by simp [h5]
  have hfo:=hfd o ho2
  iterate 5 ((try (refine drvZ Tryd.func50 ?_;simp only [go_sem,rdr,e0,e4,e5]));((with_reducible and_intros)<;>try exact sd);(try first | refine XK.p hfo ok36 ?_ | refine XK.gp hfo ok36 ?_))
  refine Go.loopQ (fun x : Nat × Nat × List Int × Int => [(0, .c (.ptr 0 0)), (2, DI .i64 at_), (3, DI .i64 N), (5, .c (.ptr 2 0)), (8, .c (.ptr 66 0)), (9, .c (.ptr 386 0)), (10, DS (sls x.2.2.2)), (11, .c (.msl 20 1 0 4)), (12, DI .i64 x.1)])
   (fun x=>[(0,some (rdr bs x.2.1)),(1,some LC),(2,some [vs.c,ar.c,.msl 1 5 0 m]),(20,some (x.2.2.1.map I64)),(66,some [I64 0,I64 0,I64 0,I64 0,I64 0]),(386,some [I64 x.2.2.2,I64 0,I64 0,I64 0,I64 0])])
   8192 (fun x=>x.1≤4∧n+1≤x.2.1∧x.2.1≤n+1+x.1∧x.2.2.1.length=4∧(1≤x.2.2.2∧x.2.2.2≤13)∧True) (fun x=>4 - x.1) ?_ (0,n+1,[0,0,0,0],o) (fun j=>if j=20 then some 1666 else some j) [] _ ⟨by simp,by simp,by simp,rfl,ho2,trivial⟩ ?_
  case' refine_2 =>
   simp only [go_sem,TmOK,DM,DMs,CM,CMs,forall_eq,exists_eq_left,Mq,HpOK,LowOK,rdr]
   simp [CMs,hOf,hpL]
   try exact CMs.kf hLC
 case' inr.inr.inr =>
  have e0:((ar.length:Int) == 0)=false:=by simp [h0]
  have hfo:=hfd o ho2
  iterate 5 ((try (refine drvZ Tryd.func50 ?_;simp only [go_sem,rdr,e0]));((with_reducible and_intros)<;>try exact sd);(try first | refine XK.p hfo ok36 ?_ | refine XK.gp hfo ok36 ?_))
  refine Go.loopQ (fun x : Nat × Nat × List Int × Int => [(0, .c (.ptr 0 0)), (2, DI .i64 at_), (3, DI .i64 N), (5, .c (.ptr 2 0)), (8, .c (.ptr 66 0)), (9, .c (.ptr 386 0)), (10, DS (sls x.2.2.2)), (11, .c (.msl 20 1 0 4)), (12, DI .i64 x.1)])
   (fun x=>[(0,some (rdr bs x.2.1)),(1,some LC),(2,some [vs.c,ar.c,.msl 1 5 0 m]),(20,some (x.2.2.1.map I64)),(66,some [I64 0,I64 0,I64 0,I64 0,I64 0]),(386,some [I64 x.2.2.2,I64 0,I64 0,I64 0,I64 0])])
   8192 (fun x=>x.1≤4∧n+1≤x.2.1∧x.2.1≤n+1+x.1∧x.2.2.1.length=4∧(1≤x.2.2.2∧x.2.2.2≤13)∧True) (fun x=>4 - x.1) ?_ (0,n+1,[0,0,0,0],o) (fun j=>if j=20 then some 1666 else some j) [] _ ⟨by simp,by simp,by simp,rfl,ho2,trivial⟩ ?_
  case' refine_2 =>
   simp only [go_sem,TmOK,DM,DMs,CM,CMs,forall_eq,exists_eq_left,Mq,HpOK,LowOK,rdr]
   simp [CMs,hOf,hpL]
   try exact CMs.kf hLC
 all_goals
  rintro ⟨k,pos,pt,op⟩ ⟨hk,hp1,hp2,hpt,hop,hoa⟩ again
  simp only at hk hp1 hp2 hpt hop again ⊢
  have hsz:=sls_size op
  have hpl:(pt.map I64).length=4:=by rw [List.length_map];exact hpt
  by_cases hlk:k<(sls op).size
  ·have hk0:=(sls_len op k (by omega)).1 hlk
   have hat:=sls_at op k hk0
   have hk6:=kinds_le op k
   generalize (kindsOf op).getD k 0=kd at *
   have hkc:kd=1∨kd=2∨kd=3∨kd=4∨kd=5∨kd=6:=by omega
   have hat:(((sls op).data.toList.getD k 0).toNat:Int)=(((slt kd).toNat:Nat):Int):=by rw [hat]
   rcases hkc with rfl | rfl | rfl | rfl | rfl | rfl
   ·rw [show (((slt 1).toNat:Nat):Int)=114 from rfl] at hat
    refine drvL Tryd.func50 ?_
    simp only [go_sem,rdr,hlk]
    iterate 8 ((try (refine drvZ Tryd.func50 ?_;simp only [go_sem,rdr,hlk,hat]));((with_reducible and_intros)<;>try exact sd))
    refine XK.callG [0] (pick bs pos 3 hb hl (by omega) (by simp only [InK];omega)) ok26 (hhp_one rfl) (hbT ()) (fun d h' ⟨v,_,_,e⟩=>by subst e;simp) ?_
    rintro _ _ ⟨v,rfl,hv,rfl⟩ _
    iterate 3 ((try (refine drvZ Tryd.func50 ?_;simp only [go_sem,rdr,hlk,hpl,set_I]));((with_reducible and_intros)<;>try exact sd))
    refine again (k+1,(pos+1),pt.set k v,op) some [] _ ⟨(show k+1≤4 by omega),(show n+1≤(pos+1) by omega),(show (pos+1)≤n+1+(k+1) by omega),by rw [List.length_set];exact hpt,hop,hoa⟩ (show 4 - (k+1)<4 - k by omega) ?_
    simp only [go_sem,TmOK,DM,DMs,CM,CMs,forall_eq,exists_eq_left,Mq,HpOK,LowOK,rdr,set_I]
    simp [-List.map_set,CMs_I,set_I]
    try exact CMs.kf hLC
   ·rw [show (((slt 2).toNat:Nat):Int)=99 from rfl] at hat
    refine drvL Tryd.func50 ?_
    simp only [go_sem,rdr,hlk]
    iterate 8 ((try (refine drvZ Tryd.func50 ?_;simp only [go_sem,rdr,hlk,hat]));((with_reducible and_intros)<;>try exact sd))
    refine XK.callG [0] (hval pos (by omega)) ok63 (hhp_one rfl) (hbT ()) (fun d h' ⟨_,_,_,_,_,_,e⟩=>by subst e;simp) ?_
    rintro _ _ ⟨v,rfl,hv,pos2,hp1,hp2,rfl⟩ _
    iterate 3 ((try (refine drvZ Tryd.func50 ?_;simp only [go_sem,rdr,hlk,hpl,set_I]));((with_reducible and_intros)<;>try exact sd))
    refine again (k+1,pos2,pt.set k v,op) some [] _ ⟨(show k+1≤4 by omega),(show n+1≤pos2 by omega),(show pos2≤n+1+(k+1) by omega),by rw [List.length_set];exact hpt,hop,hoa⟩ (show 4 - (k+1)<4 - k by omega) ?_
    simp only [go_sem,TmOK,DM,DMs,CM,CMs,forall_eq,exists_eq_left,Mq,HpOK,LowOK,rdr,set_I]
    simp [-List.map_set,CMs_I,set_I]
    try exact CMs.kf hLC
   ·rw [show (((slt 3).toNat:Nat):Int)=118 from rfl] at hat
    refine drvL Tryd.func50 ?_
    simp only [go_sem,rdr,hlk]
    iterate 8 ((try (refine drvZ Tryd.func50 ?_;simp only [go_sem,rdr,hlk,hat]));((with_reducible and_intros)<;>try exact sd))
    refine XK.callG [0] (pick bs pos vs.length hb hl (by omega) (by simp only [InK];omega)) ok26 (hhp_one rfl) (hbT ()) (fun d h' ⟨v,_,_,e⟩=>by subst e;simp) ?_
    rintro _ _ ⟨v,rfl,hv,rfl⟩ _
    iterate 3 ((try (refine drvZ Tryd.func50 ?_;simp only [go_sem,rdr,hlk,hpl,set_I]));((with_reducible and_intros)<;>try exact sd))
    refine again (k+1,(pos+1),pt.set k v,op) some [] _ ⟨(show k+1≤4 by omega),(show n+1≤(pos+1) by omega),(show (pos+1)≤n+1+(k+1) by omega),by rw [List.length_set];exact hpt,hop,hoa⟩ (show 4 - (k+1)<4 - k by omega) ?_
    simp only [go_sem,TmOK,DM,DMs,CM,CMs,forall_eq,exists_eq_left,Mq,HpOK,LowOK,rdr,set_I]
    simp [-List.map_set,CMs_I,set_I]
    try exact CMs.kf hLC
   ·rw [show (((slt 4).toNat:Nat):Int)=97 from rfl] at hat
    refine drvL Tryd.func50 ?_
    simp only [go_sem,rdr,hlk]
    iterate 8 ((try (refine drvZ Tryd.func50 ?_;simp only [go_sem,rdr,hlk,hat]));((with_reducible and_intros)<;>try exact sd))
    refine XK.callG [0] (pick bs pos ar.length hb hl (by omega) (by simp only [InK];omega)) ok26 (hhp_one rfl) (hbT ()) (fun d h' ⟨v,_,_,e⟩=>by subst e;simp) ?_
    rintro _ _ ⟨v,rfl,hv,rfl⟩ _
    iterate 3 ((try (refine drvZ Tryd.func50 ?_;simp only [go_sem,rdr,hlk,hpl,set_I]));((with_reducible and_intros)<;>try exact sd))
    refine again (k+1,(pos+1),pt.set k v,op) some [] _ ⟨(show k+1≤4 by omega),(show n+1≤(pos+1) by omega),(show (pos+1)≤n+1+(k+1) by omega),by rw [List.length_set];exact hpt,hop,hoa⟩ (show 4 - (k+1)<4 - k by omega) ?_
    simp only [go_sem,TmOK,DM,DMs,CM,CMs,forall_eq,exists_eq_left,Mq,HpOK,LowOK,rdr,set_I]
    simp [-List.map_set,CMs_I,set_I]
    try exact CMs.kf hLC
   ·rw [show (((slt 5).toNat:Nat):Int)=111 from rfl] at hat
    refine drvL Tryd.func50 ?_
    simp only [go_sem,rdr,hlk]
    iterate 8 ((try (refine drvZ Tryd.func50 ?_;simp only [go_sem,rdr,hlk,hat]));((with_reducible and_intros)<;>try exact sd))
    refine XK.callG [0] (pick bs pos 7 hb hl (by omega) (by simp only [InK];omega)) ok26 (hhp_one rfl) (hbT ()) (fun d h' ⟨v,_,_,e⟩=>by subst e;simp) ?_
    rintro _ _ ⟨v,rfl,hv,rfl⟩ _
    iterate 3 ((try (refine drvZ Tryd.func50 ?_;simp only [go_sem,rdr,hlk,hpl,set_I]));((with_reducible and_intros)<;>try exact sd))
    refine again (k+1,(pos+1),pt.set k (4+v),op) some [] _ ⟨(show k+1≤4 by omega),(show n+1≤(pos+1) by omega),(show (pos+1)≤n+1+(k+1) by omega),by rw [List.length_set];exact hpt,hop,hoa⟩ (show 4 - (k+1)<4 - k by omega) ?_
    simp only [go_sem,TmOK,DM,DMs,CM,CMs,forall_eq,exists_eq_left,Mq,HpOK,LowOK,rdr,set_I]
    simp [-List.map_set,CMs_I,set_I]
    try exact CMs.kf hLC
   ·rw [show (((slt 6).toNat:Nat):Int)=116 from rfl] at hat
    refine drvL Tryd.func50 ?_
    simp only [go_sem,rdr,hlk]
    iterate 8 ((try (refine drvZ Tryd.func50 ?_;simp only [go_sem,rdr,hlk,hat]));((with_reducible and_intros)<;>try exact sd))
    refine XK.callG [0] (pick bs pos ((N:Int) - at_ - 1) hb hl (by omega) (by simp only [InK];omega)) ok26 (hhp_one rfl) (hbT ()) (fun d h' ⟨v,_,_,e⟩=>by subst e;simp) ?_
    rintro _ _ ⟨v,rfl,hv,rfl⟩ _
    iterate 3 ((try (refine drvZ Tryd.func50 ?_;simp only [go_sem,rdr,hlk,hpl,set_I]));((with_reducible and_intros)<;>try exact sd))
    refine again (k+1,(pos+1),pt.set k ((at_:Int)+1+v),op) some [] _ ⟨(show k+1≤4 by omega),(show n+1≤(pos+1) by omega),(show (pos+1)≤n+1+(k+1) by omega),by rw [List.length_set];exact hpt,hop,hoa⟩ (show 4 - (k+1)<4 - k by omega) ?_
    simp only [go_sem,TmOK,DM,DMs,CM,CMs,forall_eq,exists_eq_left,Mq,HpOK,LowOK,rdr,set_I]
    simp [-List.map_set,CMs_I,set_I]
    try exact CMs.kf hLC
  ·clear again
   match pt,hpt with
   | [p0,p1,p2,p3],_ =>
    refine drvL Tryd.func50 ?_
    simp only [go_sem,rdr,hlk]
    iterate 5 ((try (refine drvZ Tryd.func50 ?_;simp only [go_sem,rdr,hlk]));((with_reducible and_intros)<;>try exact sd))
    refine RetOb.ofQ (fun j=>if j<2 then some j else none) [] (.agg (inX ⟨op,p0,p1,p2,p3⟩)) [some (rdr bs pos),some LC] ?_ (by rw [← hR];exact ⟨_,rfl,pos,by omega,by omega,rfl⟩) (by simp)
    simp [inX,enumL,hOf,DM,DMs,CM,CMs,HpOK,LowOK,upd,rdr,kf]
    try exact CMs.kf hLC
open CtL (In Cd kindsOf)
theorem prog_lab {p:Pg} (h:progOK p=true):(∀ x ∈ p.vars,0≤x∧x≤3)∧∀ x ∈ p.arrays,0≤x∧x≤3:=by
 simp only [progOK,headsOK,Bool.and_eq_true] at h
 obtain ⟨⟨⟨⟨⟨_,h1⟩,h2⟩,h3⟩,_⟩,_⟩:=h
 simp_all [labs]
theorem l6RandomO (bs : List Int) (n : Nat) (vs ar : List Int) (LC : List C) (m at_ N : Nat) (hb : Fits .u8 bs) (hl : bs.length ≤ 2000) (hn : n ≤ 274877906944) (hv : 1 ≤ vs.length ∧ vs.length ≤ 13) (ha : ar.length ≤ 2) (hat : at_ + 1 < N) (hN : N ≤ 13) (hLC : ∀ c ∈ LC, kf c = true) :
 DC Tryd.prog 50 [.c (.ptr 0 0), .agg [.msl 2 1 0 vs.length, .msl 3 1 0 ar.length, .msl 1 5 0 m], DI .i64 at_, DI .i64 N] [some (rdr bs n), some LC, some (vs.map I64), some (ar.map I64)]
  (fun r h=>∃ x:In,r = .agg (inX x)∧∃ n':Nat,n≤n'∧n'≤n+50∧h=[some (rdr bs n'),some LC,some (vs.map I64),some (ar.map I64)]):=by
 refine DC_imp (DC.lit (h := [some (rdr bs n), some LC]) (hB := [some (vs.map I64), some (ar.map I64)]) (R := rnR bs n LC) (lit2 (n := 2) (d0 := .c (.ptr 0 0)) (kx := 2) (ky := 3) (lx := vs.length) (ly := ar.length) (cr := [.msl 1 5 0 m]) (dr := [DI .i64 at_, DI .i64 N]) rfl rfl rfl)
  (fun args ⟨x,y,hx,hy,e⟩=>by subst e;exact l6RandomV bs n x y LC m at_ N hb hl hn (by omega) (by omega) hat hN hLC) (fun cs hcs c hc=>by
   simp only [List.mem_cons,List.not_mem_nil,or_false,Option.some.injEq] at hcs
   rcases hcs with rfl | rfl
   ·exact rdr_kf _ _ c hc
   ·exact hLC c hc) (fun d h' ⟨_,_,_,_,_,e⟩=>by subst e;rfl)) ?_
 rintro d h' ⟨_,⟨x,rfl,n',q3,q4,rfl⟩,rfl⟩
 exact ⟨x,rfl,n',q3,q4,rfl⟩
def co6RO (bs:List Int) (n:Nat) (r:D) (h:List (Option (List C))):Prop:=∃ (vs ar:List Int) (l:List In),r = .agg [.msl 1 1 0 vs.length,.msl 2 1 0 ar.length,.msl 3 5 0 l.length]∧(1≤vs.length∧vs.length≤13)∧ar.length≤2∧(1≤l.length∧l.length≤13)∧(∀ x ∈ vs,0≤x∧x≤3)∧(∀ x ∈ ar,0≤x∧x≤3)∧∃ n':Nat,n≤n'∧n'≤n+1001000∧h=[some (rdr bs n'),some (vs.map I64),some (ar.map I64),some (inC l)]
theorem l6CodeO (bs:List Int) (n:Nat) (hb:Fits .u8 bs) (hl:bs.length≤2000) (hn:n≤270000000000):DC Tryd.prog 25 [.c (.ptr 0 0)] [some (rdr bs n)] (co6RO bs n):=by
 have hmx:=mx_eq
 have hpr:=l2ProgramO bs n hb hl (by omega)
 have hrnd:=fun n vs ar LC m at_ N h1 h2 h3 h4 h5 h6=>l6RandomO bs n vs ar LC m at_ N hb hl h1 h2 h3 h4 h5 h6
 generalize hR:co6RO bs n=R
 refine dcZ Tryd.func25 ?_
 simp only [go_sem,rdr,renCs_I]
 ((try (refine drvZ Tryd.func25 ?_;simp only [go_sem,rdr,renCs_I]));((with_reducible and_intros)<;>try exact sd))
 refine XK.callG [0] hpr ok48 (hhp_one rfl) (hbT ()) (fun d h' ⟨_,_,_,_,_,_,_,_,e⟩=>by subst e;simp) ?_
 rintro _ _ ⟨vs,ar,bd,rfl,hp,n1,hn1,hn2,rfl⟩ _
 have hln:=prog_len hp.ok
 have hlb:=prog_lab hp.ok
 have hnum:=num bs n1 [6,8,4,10,1,12] hb hl (by omega) (by decide) (by decide)
 simp only at hln
 iterate 4 ((try (refine drvZ Tryd.func25 ?_;simp only [go_sem,rdr,renCs_I]));((with_reducible and_intros)<;>try exact sd))
 refine XK.callG [0,833] (numO bs n1 [6,8,4,10,1,12] hb hl (by omega) (by decide) (by decide)) ok49 (hhp2 rfl rfl) (hbT ()) (fun d h' ⟨_,_,_,e⟩=>by subst e;simp) ?_
 rintro _ _ ⟨o,rfl,ho,rfl⟩ _
 have ho2:1≤o∧o≤12:=by simp at ho;omega
 obtain ⟨N,rfl⟩:∃ N:Nat,o=N:=⟨o.toNat,by omega⟩
 clear ho
 iterate 3 ((try (refine drvZ Tryd.func25 ?_;simp only [go_sem,rdr,renCs_I]));((with_reducible and_intros)<;>try exact sd))
 refine Go.loopQ (fun x : Nat × List In => [(0, .c (.ptr 0 0)), (2, .c (.ptr 1 0)), (4, .c (.ptr 641 0)), (5, DI .i64 N), (6, DI .i64 x.2.length)])
  (fun x=>[(0,some (rdr bs x.1)),(1,some [.v (.slice none 0 0),.v (.slice none 0 0),.v (.slice none 0 0)]),(641,some [.msl 129 1 0 vs.length,.msl 130 1 0 ar.length,.msl 700 5 0 x.2.length]),(129,some (vs.map I64)),(130,some (ar.map I64)),(700,some (inC x.2))])
  4096 (fun x=>x.2.length+1≤N∧n1+1≤x.1∧x.1≤n1+1+50 * x.2.length) (fun x=>N - x.2.length) ?_ (n1+1,[]) (fun j=>if j=700 then none else some j) [] _ ⟨by simp;omega,by simp,by simp⟩ ?_
 ·rintro ⟨pos,l⟩ ⟨hi1,hi2,hi3⟩ again
  simp only at hi1 hi2 hi3 again ⊢
  rcases Nat.lt_or_ge (l.length+1) N with hlt | hge
  ·have hz:((l.length:Int)<(N:Int) - 1)=True:=eq_true (by omega)
   have hil:=inC_len l
   have hrn:=hrnd pos vs ar (inC l) l.length l.length N (by omega) ⟨hln.1,by omega⟩ hln.2.2 hlt (by omega) (inC_kf l)
   refine drvL Tryd.func25 ?_
   simp only [go_sem,rdr,renCs_I,hz]
   iterate 3 ((try (refine drvZ Tryd.func25 ?_;simp only [go_sem,rdr,renCs_I,hz]));((with_reducible and_intros)<;>try exact sd))
   refine XK.callG [0,700,129,130] hrn ok50 (hhpG (by simp [HH,upd,hOf,hpL,renCs_in,renCs_rdr,renCs_I,renCs,renC,rk0,rdr])) (hbT ()) (fun d h' ⟨_,_,_,_,_,e⟩=>by subst e;simp) ?_ (fun _=>⟨by kernel_rfl,_,_,⟨⟨0,0,0,0,0⟩,rfl,pos,by omega,by omega,rfl⟩,by simp⟩)
   rintro _ _ ⟨x,rfl,pos2,hp1,hp2,rfl⟩ _
   obtain ⟨xo,xa,xb,xc,xd⟩:=x
   iterate 4 ((try (refine drvZ Tryd.func25 ?_;simp only [go_sem,rdr,renCs_I,inX,renCs_in]));((with_reducible and_intros)<;>try exact sd))
   have hsn:inC l++[.v (.int .i64 xo),.v (.int .i64 xa),.v (.int .i64 xb),.v (.int .i64 xc),.v (.int .i64 xd)]=inC (l++[⟨xo,xa,xb,xc,xd⟩]):=by rw [inC_app,inC_one];rfl
   refine again (pos2,l++[⟨xo,xa,xb,xc,xd⟩]) (fun j=>if j=700 then some 4864 else some j) [] _ ⟨by simp;omega,by omega,by simp;omega⟩ (by simp;omega) ?_
   simp only [go_sem,TmOK,DM,DMs,CM,CMs,forall_eq,exists_eq_left,Mq,HpOK,LowOK,rdr,renCs_I,hsn]
   simp [CMs_in,CMs_I]
  ·have hz:((l.length:Int)<(N:Int) - 1)=False:=eq_false (by omega)
   have hil:=inC_len l
   clear again
   refine drvL Tryd.func25 ?_
   simp only [go_sem,rdr,renCs_I,hz]
   iterate 5 ((try (refine drvZ Tryd.func25 ?_;simp only [go_sem,rdr,renCs_I,hz]));((with_reducible and_intros)<;>try exact sd))
   have hsn:inC l++[.v (.int .i64 13),.v (.int .i64 0),.v (.int .i64 0),.v (.int .i64 0),.v (.int .i64 0)]=inC (l++[⟨13,0,0,0,0⟩]):=by rw [inC_app,inC_one];rfl
   have fin:∀ (l2:List In) (ps nb:Nat) (hp:Hp),l2.length=N→nb=N→n≤ps→ps≤n+1001000→hp 0=some (some (rdr bs ps))→hp 4608=some (some (inC l2))→hp 129=some (some (vs.map I64))→hp 130=some (some (ar.map I64))→RetOb 1 R (.agg [.msl 129 1 0 vs.length,.msl 130 1 0 ar.length,.msl 4608 5 0 nb]) hp:=fun l2 ps nb hp f1 f2 f3 f4 f5 f6 f7 f8=>by
    subst f2
    refine RetOb.ofQ (fun j=>if j=0 then some 0 else if j=1 then some 129 else if j=2 then some 130 else if j=3 then some 4608 else none) [] (.agg [.msl 1 1 0 vs.length,.msl 2 1 0 ar.length,.msl 3 5 0 l2.length]) [some (rdr bs ps),some (vs.map I64),some (ar.map I64),some (inC l2)] ?_ (by rw [← hR];exact ⟨vs,ar,l2,rfl,⟨hln.1,by omega⟩,hln.2.2,by omega,hlb.1,hlb.2,ps,by omega,by omega,rfl⟩) (by simp)
    simp [enumL,hOf,DM,DMs,CM,CMs,HpOK,LowOK,upd,rdr,isI,kf,CMs_in,CMs_I,f1,f5,f6,f7,f8]
   by_cases h3:3<N
   ·have g3:((3:Int)<(N:Int))=True:=eq_true (by omega)
    iterate 4 ((try (refine drvZ Tryd.func25 ?_;simp only [go_sem,rdr,renCs_I,g3,hsn]));((with_reducible and_intros)<;>try exact sd))
    refine XK.callT 2 true [0] (pick bs pos 4 hb hl (by omega) (by simp only [InK];omega)) ok26 (hhp_one rfl) (hbT ()) (fun d h' ⟨v,_,_,e⟩=>by subst e;simp) ?_
    rintro _ _ ⟨v,rfl,hv,rfl⟩ _
    clear hv
    by_cases hv0:v=0
    ·subst hv0
     obtain ⟨K,hK⟩:∃ K,N=K+2:=⟨N - 2,by omega⟩
     have hk2:(N:Int) - 2=(K:Int):=by omega
     have hlen2:(l++[⟨13,0,0,0,0⟩]:List In).length=N:=by simp;omega
     obtain ⟨x0,hx0⟩:∃ x,(l++[⟨13,0,0,0,0⟩]:List In)[0]? = some x:=⟨_,List.getElem?_eq_getElem (by rw [hlen2];omega)⟩
     have hlc:=inC_len (l++[⟨13,0,0,0,0⟩])
     generalize (l++[⟨13,0,0,0,0⟩]:List In)=L2 at *
     iterate 3 ((try (refine drvZ Tryd.func25 ?_;simp only [go_sem,rdr,renCs_I]));((with_reducible and_intros)<;>try exact sd))
     refine XK.callG [0] (pick bs (pos+1) 3 hb hl (by omega) (by simp only [InK];omega)) ok26 (hhp_one rfl) (hbT ()) (fun d h' ⟨v,_,_,e⟩=>by subst e;simp) ?_ (fun _=>⟨by kernel_rfl,_,_,⟨0,rfl,by omega,rfl⟩,by simp⟩)
     rintro _ _ ⟨q,rfl,hq,rfl⟩ _
     have hq2:0≤q∧q<3:=by omega
     have hp0:=inC_put hx0 ⟨1,5,1+q,0,0⟩
     simp only [putCells,inX,Nat.zero_mul,Nat.zero_add,Nat.reduceAdd] at hp0
     have hl3:(L2.set 0 ⟨1,5,1+q,0,0⟩).length=N:=by rw [List.length_set,hlen2]
     obtain ⟨xK,hxK⟩:∃ x,(L2.set 0 ⟨1,5,1+q,0,0⟩)[K]? = some x:=⟨_,List.getElem?_eq_getElem (by rw [hl3];omega)⟩
     have hlc3:=inC_len (L2.set 0 ⟨1,5,1+q,0,0⟩)
     have hpK:=inC_put hxK ⟨10,5,1,0,0⟩
     simp only [putCells,inX] at hpK
     have hlf:((L2.set 0 ⟨1,5,1+q,0,0⟩).set K ⟨10,5,1,0,0⟩).length=N:=by rw [List.length_set,hl3]
     generalize (L2.set 0 ⟨1,5,1+q,0,0⟩)=L3 at *
     iterate 4 ((try (refine drvZ Tryd.func25 ?_;simp only [go_sem,rdr,renCs_I,hp0,hk2]));((with_reducible and_intros)<;>try exact sd))
     exact fin (L3.set K ⟨10,5,1,0,0⟩) (pos+2) _ _ hlf (by omega) (by omega) (by omega) rfl (congrArg (fun x=>some (some x)) hpK) rfl rfl
    ·have e0:(v == 0)=false:=by simp [hv0]
     iterate 4 ((try (refine drvZ Tryd.func25 ?_;simp only [go_sem,rdr,renCs_I,e0]));((with_reducible and_intros)<;>try exact sd))
     exact fin (l++[⟨13,0,0,0,0⟩]) (pos+1) _ _ (by simp;omega) (by omega) (by omega) (by omega) rfl rfl rfl rfl
   ·have g3:((3:Int)<(N:Int))=False:=eq_false (by omega)
    iterate 6 ((try (refine drvZ Tryd.func25 ?_;simp only [go_sem,rdr,renCs_I,g3,hsn]));((with_reducible and_intros)<;>try exact sd);(try first | refine XK.gs (DB false) ?_))
    exact fin (l++[⟨13,0,0,0,0⟩]) pos _ _ (by simp;omega) (by omega) (by omega) (by omega) rfl rfl rfl rfl
 ·simp only [go_sem,TmOK,DM,DMs,CM,CMs,forall_eq,exists_eq_left,Mq,HpOK,LowOK,rdr,renCs_I]
  simp [CMs,kf,inC,CMs_I]
theorem TL.nil {tm:Nat→Option D}:∀ p ∈ ([]:List (Nat × D)),tm p.1=some p.2∧WsD p.2:=fun p h=>by simp at h
theorem TL.cons {tm:Nat→Option D} {n:Nat} {d:D} {l:List (Nat × D)} (h1:tm n=some d) (h2:WsD d) (h:∀ p ∈ l,tm p.1=some p.2∧WsD p.2):∀ p ∈ (n,d) :: l,tm p.1=some p.2∧WsD p.2:=fun p hp=>by
 rcases List.mem_cons.1 hp with rfl | hp
 ·exact ⟨h1,h2⟩
 ·exact h p hp
theorem ML.nil {hT:Hp} {tm:Nat→Option D}:∀ p ∈ ([]:List (Nat × D)),∃ d,tm p.1=some d∧SmD hT d p.2:=fun p h=>by simp at h
theorem ML.cons {hT:Hp} {tm:Nat→Option D} {n:Nat} {d0 d:D} {l:List (Nat × D)} (h1:tm n=some d0) (h2:SmD hT d0 d) (h:∀ p ∈ l,∃ d,tm p.1=some d∧SmD hT d p.2):∀ p ∈ (n,d) :: l,∃ d,tm p.1=some d∧SmD hT d p.2:=fun p hp=>by
 rcases List.mem_cons.1 hp with rfl | hp
 ·exact ⟨d0,h1,h2⟩
 ·exact h p hp
theorem HL.nil {hT hp:Hp}:∀ p ∈ ([]:List (Nat × Option (List C))),∃ cs cs',hp p.1=some (some cs)∧p.2=some cs'∧Sms hT cs cs':=fun p h=>by simp at h
theorem HL.cons {hT hp : Hp} {n : Nat} {cs0 cs1 : List C} {l : List (Nat × Option (List C))} (h1 : hp n = some (some cs0)) (h2 : Sms hT cs0 cs1) (h : ∀ p ∈ l, ∃ cs cs', hp p.1 = some (some cs) ∧ p.2 = some cs' ∧ Sms hT cs cs') :
 ∀ p ∈ (n,some cs1) :: l,∃ cs cs',hp p.1=some (some cs)∧p.2=some cs'∧Sms hT cs cs':=fun p hp=>by
 rcases List.mem_cons.1 hp with rfl | hp
 ·exact ⟨cs0,cs1,h1,rfl,h2⟩
 ·exact h p hp
open CtG (labT ltrL lstT)
def bstr (l:List UInt8):ByteArray:=⟨l.toArray⟩
theorem bstr_app (a b:List UInt8):bstr a++bstr b=bstr (a++b):=by
 unfold bstr;rw [← List.append_toArray];exact ByteArray.ext (by simp)
def TabW (w : World) : Prop := Lib.TabIs Tryd.prog w "internal/strconv.uint64pow10" .u64 Lib.pow10Tab
def TabY (y:Yn):Prop:=∀ w:World,(∀ b,b<y.n→w.heap[b]? = y.o b)→TabW w
theorem var_lt {P:Program} {w:World} {n:String} {cs:Array Value} (h:w.var? P n=some cs):∃ g T fr,P.globalNamed n=some g∧w.heap[g]? = some (.cells cs T fr):=by
 unfold World.var? at h
 cases hg:P.globalNamed n with
 | none=>rw [hg] at h;simp at h
 | some g =>
  rw [hg] at h
  simp only [Option.bind_some] at h
  split at h
  ·rename_i c T fr e
   simp only [Option.some.injEq] at h
   subst h
   exact ⟨g,T,fr,rfl,e⟩
  ·cases h
theorem tabY_at {w:World} (h:TabW w):TabY (ynAt w):=fun w' hw=>by
 obtain ⟨g,T,fr,h1,h2⟩:=var_lt h
 have hlt:=lt_of_heap h2
 have h3:w'.heap[g]? = w.heap[g]? := hw g hlt
 show w'.var? _ _=_
 simp only [World.var?,h1,Option.bind_some,h3,h2]
theorem tabW_below {w w':World} (h:TabW w) (hb:RowKit.Below w.heap.size w w'):TabW w':=tabY_at h w' fun b hb'=>hb.block b hb'
theorem SimH.tab {I:Nat→Prop} {w:World} {s:Sg} {hp:Hp} (H:SimH I w s hp) (hT:TabY inferInstance):TabW w:=hT w H.yng.2.2
theorem vs_one {I:Nat→Prop} {w:World} {s:Sg} {vs:Array Value} {d:D} (h:RDs I w s vs [d]):∃ v,vs=#[v]∧RD I w s v d:=by
 obtain ⟨hsz,hrd⟩:=h
 rcases vs with ⟨l⟩
 match l,hsz with
 | [v],_=>exact ⟨v,rfl,hrd 0 (by simp) (by simp)⟩
theorem itoaD (hT:TabY inferInstance) (n:Int) (h0 : -9223372036854775808≤n) (h1:n≤9223372036854775807):DC Tryd.prog 69 [DI .i64 n] [] (fun r h=>r=DS (bstr (Lib.itoa n))∧h=[]) :=
 DC.ofBelow rfl fun I w s vs H hv=>by
  obtain ⟨v,rfl,hr⟩:=vs_one hv
  obtain ⟨rfl,_⟩:=rd_scalar hr
  refine (Tryd.strconv_Itoa n h0 h1 w (SimH.tab H hT)).mono ?_
  rintro e w' ⟨rfl,k,os,rfl⟩
  exact ⟨rfl,Lib.below_grow _ w (Nat.le_refl _) k os⟩
theorem row_of {I:Nat→Prop} {w:World} {s:Sg} {v:Value} {xs:List Int} (h:RD I w s v (.c (isI xs))):∃ a cap,v = .slice a xs.length cap∧xs.length≤mx∧(xs=[]∨∃ b off,a=some ⟨b,off,none⟩∧I b∧∀ j,j<xs.length→w.cell? ⟨b,off+j,none⟩=some (.int .i64 (xs.getD j 0))) ∧
 ∀ (y':Yn) (I':Nat→Prop) (s':Sg),(∀ b,I b→I' b)→@RD y' I' w s' v (.c (isI xs)):=by
 cases h with
 | c _ _ h =>
  unfold isI at h ⊢
  generalize hL:(xs.map fun x=>[C.v (.int .i64 x)])=L at h
  have hlen:L.length=xs.length:=by rw [← hL];simp
  cases h with
  | isl0 _ a cap _ =>
   have:xs=[]:=List.eq_nil_of_length_eq_zero (by rw [← hlen];rfl)
   subst this
   exact ⟨a,cap,rfl,Nat.zero_le _,.inl rfl,fun y' I' s' _=>@RD.c y' I' w s' _ _ (@RC.isl0 y' I' w s' a cap 1)⟩
  | isl _ b off cap _ _ yv hI hl hc hr hcap =>
   have hval:∀ j (hj:j<xs.length),yv j 0 = .int .i64 (xs.getD j 0):=fun j hj=>by
    have h2:=hr j (by rw [hlen];exact hj) 0 (by subst hL;simp)
    have e:L[j]'(by rw [hlen];exact hj)=[C.v (.int .i64 xs[j])]:=by subst hL;simp
    have e2:(L[j]'(by rw [hlen];exact hj))[0]'(by rw [e];simp)=C.v (.int .i64 xs[j]):=by simp [e]
    rw [e2] at h2
    rw [(rd_scalar (.c _ _ h2)).1]
    simp [List.getD,List.getElem?_eq_getElem hj]
   have hcell:∀ j,j<xs.length→w.cell? ⟨b,off+j,none⟩=some (.int .i64 (xs.getD j 0)):=fun j hj=>by
    have h1:=hc j 0 (by rw [hlen];exact hj) (by omega)
    rw [Nat.mul_one,Nat.add_zero] at h1
    rw [h1,hval j hj]
   refine ⟨some ⟨b,off,none⟩,cap,by rw [hlen],by rw [← hlen];exact hcap.2,.inr ⟨b,off,rfl,hI,hcell⟩,fun y' I' s' hII=>?_⟩
   refine @RD.c y' I' w s' _ _ (@RC.isl y' I' w s' b off cap 1 L yv (hII b hI) hl hc (fun i hi j hj=>?_) hcap)
   have e:L[i]=[C.v (.int .i64 (xs[i]'(by omega)))]:=by subst hL;simp
   have hj0:j=0:=by rw [e] at hj;simpa using hj
   subst hj0
   have e2:(L[i])[0]'hj=C.v (.int .i64 (xs[i]'(by omega))):=by simp [e]
   rw [e2,hval i (by omega)]
   have e3:xs.getD i 0=xs[i]'(by omega):=by simp [List.getD,List.getElem?_eq_getElem (show i<xs.length by omega)]
   rw [e3]
   exact @RC.v y' I' w Sg0 _ rfl
theorem formatLabelsI (xs:List Int) (hl:xs.length≤1000000) (h:labs xs=true):DC Tryd.prog 45 [.c (isI xs)] [] (fun r h=>r=DS (bstr (labT xs))∧h=[]) :=
 DC.ofBelow rfl fun I w s vs H hv=>by
  obtain ⟨v,rfl,hr⟩:=vs_one hv
  obtain ⟨a,cap,rfl,hx,hcase,hre⟩:=row_of hr
  have hal:Calls Tryd.prog 52 #[.slice a xs.length cap] w fun e w'=>e = .returned (.bool true)∧RowKit.Below w.heap.size w w':=by
   have hd:=@CtR.areLabels (ynAt w) xs (by have:=mx_eq;omega)
   rw [h] at hd
   exact DC.calls hd fun s'=>@RDs.one (ynAt w) _ _ _ _ _ (hre (ynAt w) _ s' H.imm)
  rcases hcase with rfl | ⟨b,off,rfl,hI,hc⟩
  ·exact (CtG.fmtLab_none a cap w hal).mono fun e w' ⟨h1,h2⟩=>⟨h1,h2⟩
  ·have hlab:∀ z ∈ xs,0≤z∧z≤3:=fun z hz=>by
    simp only [labs,List.all_eq_true,Bool.and_eq_true,decide_eq_true_eq] at h
    exact h z hz
   refine (CtG.fmtLab_any b off xs.length cap xs w (by omega) (Nat.le_refl _) (H.imm b hI) hlab hc hal).mono fun e w' ⟨h1,h2⟩=>⟨?_,h2⟩
   rw [h1,List.take_length];rfl
end Go.Proofs.YtoakidkcppinpaaDoor.CtD
