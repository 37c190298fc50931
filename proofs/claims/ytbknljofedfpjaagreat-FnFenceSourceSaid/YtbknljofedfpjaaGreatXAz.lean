/- Contracts of functions of the program, one behind the other, as plain data: what each call returns and which blocks it leaves. -/
import Derived.Test.YtbknljofedfpjaaGreatXFacts
import Derived.Test.YtbknljofedfpjaaGreatXAi
import Derived.Test.YtbknljofedfpjaaGreatXAk
import Derived.Test.YtbknljofedfpjaaGreatXAm
import Derived.Test.YtbknljofedfpjaaGreatXAo
import Derived.Test.YtbknljofedfpjaaGreatXAq
import Derived.Test.YtbknljofedfpjaaGreatXAr
import Derived.Test.YtbknljofedfpjaaGreatXAs
import Derived.Test.YtbknljofedfpjaaGreatXAw
import Derived.Test.YtbknljofedfpjaaGreatXAx
import Derived.Test.YtbknljofedfpjaaGreatXAp
import Derived.Test.YtbknljofedfpjaaGreatXAy
import Derived.Test.YtbknljofedfpjaaGreatXAj
set_option linter.unusedVariables false
set_option linter.unusedSimpArgs false
set_option linter.unusedSectionVars false
set_option maxHeartbeats 16000000
set_option maxRecDepth 100000
namespace Go.Proofs.YtbknljofedfpjaaGreat.CtD
open Go Go.CT CtF CtR
variable [Yn]
open CtL (In Cd)
theorem RetOb.cdK {R : D → List (Option (List C)) → Prop} {c : Cd} {hp : Hp} {k0 k1 k2 nv na nb : Nat} {rc : List C} (hR : R (.agg (cdC c)) [some rc]) (hrc : ∀ c ∈ rc, kf c = true)
 (hz:hp 0=some (some rc)) (h0:hp k0=some (some (c.vars.map I64))) (h1:hp k1=some (some (c.arrays.map I64))) (h2:hp k2=some (some (inC c.list))) (hv:nv=c.vars.length) (ha:na=c.arrays.length) (hb:nb=c.list.length)
 (hne:0 ≠ k0∧0 ≠ k1∧0 ≠ k2):RetOb 1 R (.agg [.msl k0 1 0 nv,.msl k1 1 0 na,.msl k2 5 0 nb]) hp:=by
 subst hv ha hb
 obtain ⟨vs,ar,l⟩:=c
 obtain ⟨n0,n1,n2⟩:=hne
 refine RetOb.ofQ (fun j=>if j=0 then some 0 else none) [k0,k1,k2] _ [some rc] ?_ hR (by simp)
 have e4:∀ {hT hS:Hp} {r:Nat→Option Nat} {fz:List Nat},CMs hT r hS fz rc rc=True:=eq_true (CMs.kf hrc)
 have g2:=in_len5 l
 have g3:=in_kf5 l
 simp [-List.mem_map,enumL,DM,DMs,CM,CMs,HpOK,LowOK,hOf,upd,cdC,isI,flat_I,kf,e4,hz,h0,h1,h2,in_flat,n0,n1,n2]
 first | exact ⟨⟨I_len1 _,I_kf1 _⟩,⟨I_len1 _,I_kf1 _⟩,g2,g3⟩ | exact ⟨g2,g3⟩
theorem inC_split {l:List In} {i:Nat} {x:In} (h:l[i]? = some x):inC l=inC (l.take i)++inX x++inC (l.drop (i+1)):=by
 have hi:i<l.length:=(List.getElem?_eq_some_iff.1 h).1
 have hx:l[i]=x:=(List.getElem?_eq_some_iff.1 h).2
 conv=>lhs;rw [← List.take_append_drop i l,List.drop_eq_getElem_cons hi,hx]
 rw [inC_app,inC_cons]
 simp
theorem inC_setAt {l:List In} {i:Nat} {x:In} (h:l[i]? = some x) (y:In):inC (l.set i y)=inC (l.take i)++inX y++inC (l.drop (i+1)):=by
 have hi:i<l.length:=(List.getElem?_eq_some_iff.1 h).1
 have h2:(l.set i y)[i]? = some y:=List.getElem?_set_self hi
 rw [inC_split h2,List.take_set_of_le (Nat.le_refl _),List.drop_set_of_lt (by omega)]
theorem inC_put {l:List In} {i:Nat} {x:In} (h:l[i]? = some x) (y:In):putCells (inC l) (i * 5) (inX y)=inC (l.set i y):=by
 have hi:i<l.length:=(List.getElem?_eq_some_iff.1 h).1
 have hlen:(inC (l.take i)).length=i * 5:=by rw [inC_len,List.length_take,Nat.min_eq_left (by omega)]
 rw [inC_split h,inC_setAt h,← hlen,List.append_assoc,put_at _ _ _ (by simp [inX])]
 simp [inX]
theorem inC_put1 {l:List In} {i:Nat} {x:In} (h:l[i]? = some x) (j:Nat) (hj:j<5) (v:Int):∃ y:In,(inC l).set (i * 5+j) (I64 v)=inC (l.set i y):=by
 have hi:i<l.length:=(List.getElem?_eq_some_iff.1 h).1
 have hlen:(inC (l.take i)).length=i * 5:=by rw [inC_len,List.length_take,Nat.min_eq_left (by omega)]
 have key:∀ y:In,(inX x).set j (I64 v)=inX y→(inC l).set (i * 5+j) (I64 v)=inC (l.set i y):=fun y hy=>by
  rw [inC_setAt h,inC_split h,List.append_assoc,← hlen,List.set_append_right _ _ (by omega),Nat.add_sub_cancel_left,List.set_append_left _ _ (by simp [inX];omega),hy,List.append_assoc]
 obtain ⟨op,a,b,c,d⟩:=x
 match j,hj with
 | 0,_=>exact ⟨⟨v,a,b,c,d⟩,key _ rfl⟩
 | 1,_=>exact ⟨⟨op,v,b,c,d⟩,key _ rfl⟩
 | 2,_=>exact ⟨⟨op,a,v,c,d⟩,key _ rfl⟩
 | 3,_=>exact ⟨⟨op,a,b,v,d⟩,key _ rfl⟩
 | 4,_=>exact ⟨⟨op,a,b,c,v⟩,key _ rfl⟩
def muC (bs:List Int) (n:Nat) (r:D) (h:List (Option (List C))):Prop:=∃ c:Cd,r = .agg (cdC c)∧c.vars.length≤13∧c.arrays.length≤2∧c.list.length≤400∧rdL bs n 5 h
theorem l6Mutate (bs : List Int) (n : Nat) (c : Cd) (hb : Fits .u8 bs) (hl : bs.length ≤ 2000) (hn : n ≤ 274877906944) (hv : c.vars.length ≤ 13) (ha : c.arrays.length ≤ 2) (hcl : c.list.length ≤ 400) :
 DC Tryz.prog 47 [.c (.ptr 0 0),.agg (cdC c)] [some (rdr bs n)] (muC bs n):=by
 have hmx:=mx_eq
 generalize hR:muC bs n=R
 obtain ⟨vs,ar,l⟩:=c
 simp only at hv ha hcl
 unfold cdC
 have hfin:∀ (kv ka kl nv na nl:Nat) (n':Nat) (vs':List Int) (l':List In) (hp:Hp),vs'.length≤13→l'.length≤400→n≤n'→n'≤n+5→hp 0=some (some (rdr bs n'))→hp kv=some (some (vs'.map I64))→hp ka=some (some (ar.map I64))→hp kl=some (some (inC l'))→nv=vs'.length→na=ar.length→nl=l'.length →
  (0 ≠ kv∧0 ≠ ka∧0 ≠ kl)→RetOb 1 R (.agg [.msl kv 1 0 nv,.msl ka 1 0 na,.msl kl 5 0 nl]) hp:=fun kv ka kl nv na nl n' vs' l' hp g1 g2 g3 g4 g5 g6 g7 g8 g9 g10 g11 g12 =>
  RetOb.cdK (c:=⟨vs',ar,l'⟩) (by rw [← hR];exact ⟨⟨vs',ar,l'⟩,rfl,g1,ha,g2,n',g3,g4,rfl⟩) (rdr_kf bs n') g5 g6 g7 g8 g9 g10 g11 g12
 have hil:=inC_len l
 by_cases h0:l.length=0
 ·have e0:((l.length:Int) == 0)=true:=by simp [h0]
  refine dcZ Tryz.func47 ?_
  simp only [go_sem,rdr,flat_I',in_flat,e0]
  iterate 5 ((try (refine drvZ Tryz.func47 ?_;simp only [go_sem,rdr,flat_I',in_flat,e0]));((with_reducible and_intros)<;>try exact sd))
  exact hfin 321 577 833 _ _ _ n vs l _ hv hcl (by omega) (by omega) rfl rfl rfl rfl rfl rfl rfl (by decide)
 have e0:((l.length:Int) == 0)=false:=by simp only [beq_eq_false_iff_ne,ne_eq];omega
 obtain ⟨k,hk⟩:∃ k,l.length=k+1:=⟨l.length - 1,by omega⟩
 have hk1:(l.length:Int) - 1=(k:Int):=by omega
 have hkl:k<l.length:=by omega
 obtain ⟨xk,hxk⟩:∃ x,l[k]? = some x:=⟨l[k],by simp [hkl]⟩
 obtain ⟨x0,hx0⟩:∃ x,l[0]? = some x:=⟨l[0]'(by omega),by simp⟩
 refine dcZ Tryz.func47 ?_
 simp only [go_sem,rdr,flat_I',in_flat,e0]
 iterate 5 ((try (refine drvZ Tryz.func47 ?_;simp only [go_sem,rdr,flat_I',in_flat,e0]));((with_reducible and_intros)<;>try exact sd))
 refine XK.callG [0] (pick bs n 60 hb hl (by omega) (by simp only [InK];omega)) ok71 (hhp_one rfl) (hbT ()) (fun d h' ⟨v,_,_,e⟩=>by subst e;simp) ?_
 rintro _ _ ⟨v,rfl,hpv,rfl⟩ _
 clear hpv
 have hpv:v=0∨v=1∨v=2∨v=3∨v=4∨v=5∨(v ≠ 0∧v ≠ 1∧v ≠ 2∧v ≠ 3∧v ≠ 4∧v ≠ 5):=by omega
 rcases hpv with rfl | rfl | rfl | rfl | rfl | rfl | ⟨n0,n1,n2,n3,n4,n5⟩
 ·iterate 4 ((try (refine drvZ Tryz.func47 ?_;simp only [go_sem,rdr]));((with_reducible and_intros)<;>try exact sd))
  refine XK.callG [0,1921] (numO bs (n+1) [0,14,1,12] hb hl (by omega) (by decide) (by decide)) ok73 (hhp2 rfl rfl) (hbT ()) (fun d h' ⟨_,_,_,e⟩=>by subst e;simp) ?_ (fun _=>⟨by kernel_rfl,_,_,⟨0,rfl,by simp,rfl⟩,by simp⟩)
  rintro _ _ ⟨w,rfl,hw,rfl⟩ _
  clear hw
  obtain ⟨y,hy⟩:=inC_put1 hx0 0 (by omega) w
  simp only [Nat.zero_mul,Nat.add_zero] at hy
  iterate 5 ((try (refine drvZ Tryz.func47 ?_;simp only [go_sem,rdr,hy]));((with_reducible and_intros)<;>try exact sd))
  exact hfin 321 577 833 _ _ _ (n+2) vs (l.set 0 y) _ hv (by simp;omega) (by omega) (by omega) rfl rfl rfl rfl rfl rfl (by simp) (by decide)
 ·iterate 4 ((try (refine drvZ Tryz.func47 ?_;simp only [go_sem,rdr]));((with_reducible and_intros)<;>try exact sd))
  refine XK.callG [0] (pick bs (n+1) l.length hb hl (by omega) (by simp only [InK];omega)) ok71 (hhp_one rfl) (hbT ()) (fun d h' ⟨v,_,_,e⟩=>by subst e;simp) ?_ (fun _=>⟨by kernel_rfl,_,_,⟨0,rfl,by omega,rfl⟩,by simp⟩)
  rintro _ _ ⟨q,rfl,hq,rfl⟩ _
  have hq2:0≤q∧q<l.length:=by omega
  obtain ⟨i,rfl⟩:∃ i:Nat,q=i:=⟨q.toNat,by omega⟩
  have hil2:i<l.length:=by omega
  obtain ⟨xi,hxi⟩:∃ x,l[i]? = some x:=⟨l[i],by simp [hil2]⟩
  iterate 4 ((try (refine drvZ Tryz.func47 ?_;simp only [go_sem,rdr,hil2]));((with_reducible and_intros)<;>try exact sd))
  refine XK.callG [0,2241] (numO bs (n+2) [-1,14,0,400] hb hl (by omega) (by decide) (by decide)) ok73 (hhp2 rfl rfl) (hbT ()) (fun d h' ⟨_,_,_,e⟩=>by subst e;simp) ?_ (fun _=>⟨by kernel_rfl,_,_,⟨-1,rfl,by simp,rfl⟩,by simp⟩)
  rintro _ _ ⟨w,rfl,hw,rfl⟩ _
  clear hw
  obtain ⟨y,hy⟩:=inC_put1 hxi 1 (by omega) w
  iterate 6 ((try (refine drvZ Tryz.func47 ?_;simp only [go_sem,rdr,hil2,hy]));((with_reducible and_intros)<;>try exact sd))
  exact hfin 321 577 833 _ _ _ (n+3) vs (l.set i y) _ hv (by simp;omega) (by omega) (by omega) rfl rfl rfl rfl rfl rfl (by simp) (by decide)
 ·iterate 6 ((try (refine drvZ Tryz.func47 ?_;simp only [go_sem,rdr,hk1,hkl]));((with_reducible and_intros)<;>try exact sd))
  have hput:=inC_put hxk ⟨12,0,0,0,0⟩
  simp only [putCells,inX] at hput
  exact hfin 321 577 833 _ _ _ (n+1) vs (l.set k ⟨12,0,0,0,0⟩) _ hv (by simp;omega) (by omega) (by omega) rfl rfl rfl (congrArg (fun x=>some (some x)) hput) rfl rfl (by simp) (by decide)
 ·iterate 6 ((try (refine drvZ Tryz.func47 ?_;simp only [go_sem,rdr,hk1,hkl]));((with_reducible and_intros)<;>try exact sd))
  have hput:=inC_put hxk ⟨8,0,0,0,0⟩
  simp only [putCells,inX] at hput
  exact hfin 321 577 833 _ _ _ (n+1) vs (l.set k ⟨8,0,0,0,0⟩) _ hv (by simp;omega) (by omega) (by omega) rfl rfl rfl (congrArg (fun x=>some (some x)) hput) rfl rfl (by simp) (by decide)
 ·iterate 6 ((try (refine drvZ Tryz.func47 ?_;simp only [go_sem,rdr]));((with_reducible and_intros)<;>try exact sd))
  refine XK.callG [0] (pick bs (n+1) l.length hb hl (by omega) (by simp only [InK];omega)) ok71 (hhp_one rfl) (hbT ()) (fun d h' ⟨v,_,_,e⟩=>by subst e;simp) ?_ (fun _=>⟨by kernel_rfl,_,_,⟨0,rfl,by omega,rfl⟩,by simp⟩)
  rintro _ _ ⟨q,rfl,hq,rfl⟩ _
  have hq2:0≤q∧q<l.length:=by omega
  obtain ⟨i,rfl⟩:∃ i:Nat,q=i:=⟨q.toNat,by omega⟩
  have hil2:i<l.length:=by omega
  obtain ⟨xi,hxi⟩:∃ x,l[i]? = some x:=⟨l[i],by simp [hil2]⟩
  iterate 4 ((try (refine drvZ Tryz.func47 ?_;simp only [go_sem,rdr,hil2]));((with_reducible and_intros)<;>try exact sd))
  refine XK.callG [0,2625] (numO bs (n+2) [1,-1] hb hl (by omega) (by decide) (by decide)) ok73 (hhp2 rfl rfl) (hbT ()) (fun d h' ⟨_,_,_,e⟩=>by subst e;simp) ?_ (fun _=>⟨by kernel_rfl,_,_,⟨1,rfl,by simp,rfl⟩,by simp⟩)
  rintro _ _ ⟨w,rfl,hw,rfl⟩ _
  clear hw
  obtain ⟨y,hy⟩:=inC_put1 hxi 4 (by omega) w
  iterate 6 ((try (refine drvZ Tryz.func47 ?_;simp only [go_sem,rdr,hil2,hy]));((with_reducible and_intros)<;>try exact sd))
  exact hfin 321 577 833 _ _ _ (n+3) vs (l.set i y) _ hv (by simp;omega) (by omega) (by omega) rfl rfl rfl rfl rfl rfl (by simp) (by decide)
 ·iterate 8 ((try (refine drvZ Tryz.func47 ?_;simp only [go_sem,rdr]));((with_reducible and_intros)<;>try exact sd))
  exact hfin 2369 577 833 _ _ _ (n+1) [] l _ (by simp) hcl (by omega) (by omega) rfl rfl rfl rfl rfl rfl rfl (by decide)
 ·have e0:(v == 0)=false:=by simp [n0]
  have e1:(v == 1)=false:=by simp [n1]
  have e2:(v == 2)=false:=by simp [n2]
  have e3:(v == 3)=false:=by simp [n3]
  have e4:(v == 4)=false:=by simp [n4]
  have e5:(v == 5)=false:=by simp [n5]
  iterate 10 ((try (refine drvZ Tryz.func47 ?_;simp only [go_sem,rdr,e0,e1,e2,e3,e4,e5]));((with_reducible and_intros)<;>try exact sd))
  exact hfin 321 577 833 _ _ _ (n+1) vs l _ hv hcl (by omega) (by omega) rfl rfl rfl rfl rfl rfl rfl (by decide)
open CtL (In Cd)
def co6R (bs:List Int) (n:Nat) (r:D) (h:List (Option (List C))):Prop:=∃ (vs ar:List Int) (l:List In),r = .agg [isI vs,isI ar,.msl 1 5 0 l.length]∧(1≤vs.length∧vs.length≤13)∧ar.length≤2∧(1≤l.length∧l.length≤13)∧rdl2 bs n 1001000 (inC l) h
theorem l6CodeL (bs:List Int) (n:Nat) (hb:Fits .u8 bs) (hl:bs.length≤2000) (hn:n≤270000000000):DC Tryz.prog 100 [.c (.ptr 0 0)] [some (rdr bs n)] (co6R bs n):=by
 have hmx:=mx_eq
 have hpr:=l2Program bs n hb hl (by omega)
 have hrnd:=fun n vs ar LC m at_ N h1 h2 h3 h4 h5 h6=>l6RandomL bs n vs ar LC m at_ N hb hl h1 h2 h3 h4 h5 h6
 generalize hR:co6R bs n=R
 refine dcZ Tryz.func100 ?_
 simp only [go_sem,rdr]
 ((try (refine drvZ Tryz.func100 ?_;simp only [go_sem,rdr]));((with_reducible and_intros)<;>try exact sd))
 refine XK.callG [0] hpr ok29 (hhp_one rfl) (hbT ()) (fun d h' ⟨_,_,_,_,_,_,e⟩=>by subst e;simp) ?_
 rintro _ _ ⟨p,rfl,hp,n1,hn1,hn2,rfl⟩ _
 have hln:=prog_len hp.ok
 have hnum:=num bs n1 [6,8,4,10,1,12] hb hl (by omega) (by decide) (by decide)
 obtain ⟨vs,ar,bd⟩:=p
 simp only at hln
 iterate 4 ((try (refine drvZ Tryz.func100 ?_;simp only [go_sem,rdr]));((with_reducible and_intros)<;>try exact sd))
 refine XK.callG [0,833] (numO bs n1 [6,8,4,10,1,12] hb hl (by omega) (by decide) (by decide)) ok73 (hhp2 rfl rfl) (hbT ()) (fun d h' ⟨_,_,_,e⟩=>by subst e;simp) ?_
 rintro _ _ ⟨o,rfl,ho,rfl⟩ _
 have ho2:1≤o∧o≤12:=by simp at ho;omega
 obtain ⟨N,rfl⟩:∃ N:Nat,o=N:=⟨o.toNat,by omega⟩
 clear ho
 iterate 3 ((try (refine drvZ Tryz.func100 ?_;simp only [go_sem,rdr]));((with_reducible and_intros)<;>try exact sd))
 refine Go.loopQ (fun x : Nat × List In => [(0, .c (.ptr 0 0)), (2, .c (.ptr 1 0)), (4, .c (.ptr 641 0)), (5, DI .i64 N), (6, DI .i64 x.2.length)])
  (fun x=>[(0,some (rdr bs x.1)),(1,some [.v (.slice none 0 0),.v (.slice none 0 0),.v (.slice none 0 0)]),(641,some [isI vs,isI ar,.msl 700 5 0 x.2.length]),(700,some (inC x.2))])
  4096 (fun x=>x.2.length+1≤N∧n1+1≤x.1∧x.1≤n1+1+50 * x.2.length) (fun x=>N - x.2.length) ?_ (n1+1,[]) (fun j=>if j=700 then none else some j) [] _ ⟨by simp;omega,by simp,by simp⟩ ?_
 ·rintro ⟨pos,l⟩ ⟨hi1,hi2,hi3⟩ again
  simp only at hi1 hi2 hi3 again ⊢
  rcases Nat.lt_or_ge (l.length+1) N with hlt | hge
  ·have hz:((l.length:Int)<(N:Int) - 1)=True:=eq_true (by omega)
   have hil:=inC_len l
   have hrn:=hrnd pos vs ar (inC l) l.length l.length N (by omega) ⟨hln.1,by omega⟩ hln.2.2 hlt (by omega) (inC_kf l)
   refine drvL Tryz.func100 ?_
   simp only [go_sem,rdr,hz]
   iterate 3 ((try (refine drvZ Tryz.func100 ?_;simp only [go_sem,rdr,hz]));((with_reducible and_intros)<;>try exact sd))
   refine XK.callG [0,700] hrn ok143 (hhpG (by simp [HH,upd,hOf,hpL,renCs_in,renCs_rdr,renCs,renC,rk0,rdr])) (hbT ()) (fun d h' ⟨_,_,_,_,_,e⟩=>by subst e;simp) ?_ (fun _=>⟨by kernel_rfl,_,_,⟨⟨0,0,0,0,0⟩,rfl,pos,by omega,by omega,rfl⟩,by simp⟩)
   rintro _ _ ⟨x,rfl,pos2,hp1,hp2,rfl⟩ _
   obtain ⟨xo,xa,xb,xc,xd⟩:=x
   iterate 4 ((try (refine drvZ Tryz.func100 ?_;simp only [go_sem,rdr,inX,renCs_in]));((with_reducible and_intros)<;>try exact sd))
   have hsn:inC l++[.v (.int .i64 xo),.v (.int .i64 xa),.v (.int .i64 xb),.v (.int .i64 xc),.v (.int .i64 xd)]=inC (l++[⟨xo,xa,xb,xc,xd⟩]):=by rw [inC_app,inC_one];rfl
   refine again (pos2,l++[⟨xo,xa,xb,xc,xd⟩]) (fun j=>if j=700 then some 4864 else some j) [] _ ⟨by simp;omega,by omega,by simp;omega⟩ (by simp;omega) ?_
   simp only [go_sem,TmOK,DM,DMs,CM,CMs,forall_eq,exists_eq_left,Mq,HpOK,LowOK,rdr,hsn]
   simp [CMs_in]
  ·have hz:((l.length:Int)<(N:Int) - 1)=False:=eq_false (by omega)
   have hil:=inC_len l
   clear again
   refine drvL Tryz.func100 ?_
   simp only [go_sem,rdr,hz]
   iterate 5 ((try (refine drvZ Tryz.func100 ?_;simp only [go_sem,rdr,hz]));((with_reducible and_intros)<;>try exact sd))
   have hsn:inC l++[.v (.int .i64 13),.v (.int .i64 0),.v (.int .i64 0),.v (.int .i64 0),.v (.int .i64 0)]=inC (l++[⟨13,0,0,0,0⟩]):=by rw [inC_app,inC_one];rfl
   have fin:∀ (l2:List In) (ps nb:Nat) (hp:Hp),l2.length=N→nb=N→n≤ps→ps≤n+1001000→hp 0=some (some (rdr bs ps))→hp 4608=some (some (inC l2))→RetOb 1 R (.agg [isI vs,isI ar,.msl 4608 5 0 nb]) hp:=fun l2 ps nb hp f1 f2 f3 f4 f5 f6=>by
    subst f2
    refine RetOb.ofQ (fun j=>if j=0 then some 0 else if j=1 then some 4608 else none) [] (.agg [isI vs,isI ar,.msl 1 5 0 l2.length]) [some (rdr bs ps),some (inC l2)] ?_ (by rw [← hR];exact ⟨vs,ar,l2,rfl,⟨hln.1,by omega⟩,hln.2.2,by omega,ps,by omega,by omega,rfl⟩) (by simp)
    simp [enumL,hOf,DM,DMs,CM,CMs,HpOK,LowOK,upd,rdr,isI,kf,CMs_in,f1,f5,f6]
   by_cases h3:3<N
   ·have g3:((3:Int)<(N:Int))=True:=eq_true (by omega)
    iterate 4 ((try (refine drvZ Tryz.func100 ?_;simp only [go_sem,rdr,g3,hsn]));((with_reducible and_intros)<;>try exact sd))
    refine XK.callT 2 true [0] (pick bs pos 4 hb hl (by omega) (by simp only [InK];omega)) ok71 (hhp_one rfl) (hbT ()) (fun d h' ⟨v,_,_,e⟩=>by subst e;simp) ?_
    rintro _ _ ⟨v,rfl,hv,rfl⟩ _
    clear hv
    by_cases hv0:v=0
    ·subst hv0
     obtain ⟨K,hK⟩:∃ K,N=K+2:=⟨N - 2,by omega⟩
     have hk2:(N:Int) - 2=(K:Int):=by omega
     have hlen2:(l++[⟨13,0,0,0,0⟩]:List In).length=N:=by simp;omega
     obtain ⟨x0,hx0⟩:∃ x,(l++[⟨13,0,0,0,0⟩]:List In)[0]? = some x:=⟨_,List.getElem?_eq_getElem (by rw [hlen2];omega)⟩
     have hlc:=inC_len (l++[⟨13,0,0,0,0⟩])
     generalize (l++[⟨13,0,0,0,0⟩]:List In)=L2 at *
     iterate 3 ((try (refine drvZ Tryz.func100 ?_;simp only [go_sem,rdr]));((with_reducible and_intros)<;>try exact sd))
     refine XK.callG [0] (pick bs (pos+1) 3 hb hl (by omega) (by simp only [InK];omega)) ok71 (hhp_one rfl) (hbT ()) (fun d h' ⟨v,_,_,e⟩=>by subst e;simp) ?_ (fun _=>⟨by kernel_rfl,_,_,⟨0,rfl,by omega,rfl⟩,by simp⟩)
     rintro _ _ ⟨q,rfl,hq,rfl⟩ _
     have hq2:0≤q∧q<3:=by omega
     have hp0:=inC_put hx0 ⟨1,5,1+q,0,0⟩
     simp only [putCells,inX,Nat.zero_mul,Nat.zero_add,Nat.reduceAdd] at hp0
     have hl3:(L2.set 0 ⟨1,5,1+q,0,0⟩).length=N:=by rw [List.length_set,hlen2]
     obtain ⟨xK,hxK⟩:∃ x,(L2.set 0 ⟨1,5,1+q,0,0⟩)[K]? = some x:=⟨_,List.getElem?_eq_getElem (by rw [hl3];omega)⟩
     have hlc3:=inC_len (L2.set 0 ⟨1,5,1+q,0,0⟩)
     have hpK:=inC_put hxK ⟨10,5,1,0,0⟩
     simp only [putCells,inX] at hpK
     have hlf:((L2.set 0 ⟨1,5,1+q,0,0⟩).set K ⟨10,5,1,0,0⟩).length=N:=by rw [List.length_set,hl3]
     generalize (L2.set 0 ⟨1,5,1+q,0,0⟩)=L3 at *
     iterate 4 ((try (refine drvZ Tryz.func100 ?_;simp only [go_sem,rdr,hp0,hk2]));((with_reducible and_intros)<;>try exact sd))
     exact fin (L3.set K ⟨10,5,1,0,0⟩) (pos+2) _ _ hlf (by omega) (by omega) (by omega) rfl (congrArg (fun x=>some (some x)) hpK)
    ·have e0:(v == 0)=false:=by simp [hv0]
     iterate 4 ((try (refine drvZ Tryz.func100 ?_;simp only [go_sem,rdr,e0]));((with_reducible and_intros)<;>try exact sd))
     exact fin (l++[⟨13,0,0,0,0⟩]) (pos+1) _ _ (by simp;omega) (by omega) (by omega) (by omega) rfl rfl
   ·have g3:((3:Int)<(N:Int))=False:=eq_false (by omega)
    iterate 6 ((try (refine drvZ Tryz.func100 ?_;simp only [go_sem,rdr,g3,hsn]));((with_reducible and_intros)<;>try exact sd);(try first | refine XK.gs (DB false) ?_))
    exact fin (l++[⟨13,0,0,0,0⟩]) pos _ _ (by simp;omega) (by omega) (by omega) (by omega) rfl rfl
 ·simp only [go_sem,TmOK,DM,DMs,CM,CMs,forall_eq,exists_eq_left,Mq,HpOK,LowOK,rdr]
  simp [CMs,kf,inC]
open CtL (In Cd)
theorem RetOb.cdF {R : D → List (Option (List C)) → Prop} {vs ar : List Int} {l : List In} {hp : Hp} {k2 nb : Nat} {rc : List C} (hR : R (.agg (cdC ⟨vs, ar, l⟩)) [some rc]) (hrc : ∀ c ∈ rc, kf c = true)
 (hz:hp 0=some (some rc)) (h2:hp k2=some (some (inC l))) (hb:nb=l.length) (hne:0 ≠ k2):RetOb 1 R (.agg [isI vs,isI ar,.msl k2 5 0 nb]) hp:=by
 subst hb
 refine RetOb.ofQ (fun j=>if j=0 then some 0 else none) [k2] _ [some rc] ?_ hR (by simp)
 have e4:∀ {hT hS:Hp} {r:Nat→Option Nat} {fz:List Nat},CMs hT r hS fz rc rc=True:=eq_true (CMs.kf hrc)
 have g2:=in_len5 l
 have g3:=in_kf5 l
 simp [-List.mem_map,enumL,DM,DMs,CM,CMs,HpOK,LowOK,hOf,upd,cdC,isI,kf,e4,hz,h2,in_flat,hne]
 first | exact ⟨g2,g3⟩ | skip
theorem inC_at {l:List In} {i:Nat} {x:In} (h:l[i]? = some x):(inC l)[i * 5]? = some (I64 x.op):=by
 have hi:i<l.length:=(List.getElem?_eq_some_iff.1 h).1
 have hlen:(inC (l.take i)).length=i * 5:=by rw [inC_len,List.length_take,Nat.min_eq_left (by omega)]
 rw [inC_split h,List.append_assoc,List.getElem?_append_right (by omega),hlen,Nat.sub_self]
 cases x;rfl
def ju6R (bs:List Int) (n:Nat) (r:D) (h:List (Option (List C))):Prop:=∃ c:Cd,r = .agg (cdC c)∧c.vars.length≤13∧c.arrays.length≤2∧c.list.length≤400∧rdL bs n 3000000 h
theorem l8JumpsL (bs:List Int) (n:Nat) (hb:Fits .u8 bs) (hl:bs.length≤2000) (hn:n≤200000000000):DC Tryz.prog 48 [.c (.ptr 0 0)] [some (rdr bs n)] (ju6R bs n):=by
 have hmx:=mx_eq
 have hco:=l6CodeL bs n hb hl (by omega)
 generalize hR:ju6R bs n=R
 refine dcZ Tryz.func48 ?_
 simp only [go_sem,rdr]
 ((try (refine drvZ Tryz.func48 ?_;simp only [go_sem,rdr]));((with_reducible and_intros)<;>try exact sd))
 refine XK.callG [0] hco ok100 (hhp_one rfl) (hbT ()) (fun d h' ⟨_,_,_,_,_,_,_,_,_,_,e⟩=>by subst e;simp) ?_
 rintro _ _ ⟨vs,ar,l,rfl,hvs,har,hll,n1,hn1,hn2,rfl⟩ _
 iterate 3 ((try (refine drvZ Tryz.func48 ?_;simp only [go_sem,rdr,renCs_in]));((with_reducible and_intros)<;>try exact sd))
 refine XK.callG [0] (pick bs n1 2 hb hl (by omega) (by simp only [InK];omega)) ok71 (hhp_one rfl) (hbT ()) (fun d h' ⟨v,_,_,e⟩=>by subst e;simp) ?_
 rintro _ _ ⟨v,rfl,hv,rfl⟩ _
 clear hv
 by_cases hv0:v=0
 ·subst hv0
  have hpr:=l2Program bs (n1+1) hb hl (by omega)
  iterate 3 ((try (refine drvZ Tryz.func48 ?_;simp only [go_sem,rdr,renCs_in]));((with_reducible and_intros)<;>try exact sd))
  refine XK.callG [0] hpr ok29 (hhp_one rfl) (hbT ()) (fun d h' ⟨_,_,_,_,_,_,e⟩=>by subst e;simp) ?_
  rintro _ _ ⟨p,rfl,hp,n2,hn3,hn4,rfl⟩ _
  have hln:=prog_len hp.ok
  have hcp:=compProgSO p (by omega) (by omega) (by have:=(body_of hp.ok).2;omega)
  obtain ⟨vs2,ar2,bd⟩:=p
  simp only at hln
  iterate 2 ((try (refine drvZ Tryz.func48 ?_;simp only [go_sem,rdr,renCs_in,renCs_I]));((with_reducible and_intros)<;>try exact sd))
  refine XK.callG [] hcp ok8 (fun i' x h=>by simp at h) (hbT ()) (fun d h' e=>by rcases e with ⟨_,_,e,_⟩ | ⟨_,e⟩<;>subst e<;>simp) ?_
  rintro _ _ (⟨l2,rfl,rfl,g1,g2,g3,g4⟩ | ⟨rfl,rfl⟩) _
  ·iterate 5 ((try (refine drvZ Tryz.func48 ?_;simp only [go_sem,rdr,renCs_in,renCs_I]));((with_reducible and_intros)<;>try exact sd))
   refine Go.loopQ (fun x : Nat × Nat × List In => [(0, .c (.ptr 0 0)), (2, .c (.ptr 1 0)), (3, .c (.ptr 193 0)), (6, DI .i64 (l2.length : Nat)), (7, DI .i64 (x.1 : Nat))])
    (fun x=>[(0,some (rdr bs x.2.1)),(1,some [.v (.slice none 0 0),.v (.slice none 0 0),.v (.slice none 0 0)]),(193,some [isI vs2,isI ar2,.msl 641 5 0 l2.length]),(641,some (inC x.2.2))])
    4096 (fun x=>x.2.2.length=l2.length∧n2≤x.2.1∧x.2.1≤n2+2 * x.1∧(x.1=0∨(x.1+1≤l2.length∧l2.length≤40))) (fun x=>l2.length - x.1) ?_ (0,n2,l2) some [] _ ⟨rfl,Nat.le_refl _,Nat.le_refl _,.inl rfl⟩ ?_
   ·rintro ⟨i,pos,ll⟩ ⟨hi1,hi2,hi3,hi4⟩ again
    simp only at hi1 hi2 hi3 hi4 again ⊢
    have hil:=inC_len ll
    by_cases hc:i+1<l2.length∧l2.length≤40
    ·have hz1:((i:Int)+1<(l2.length:Int))=True:=eq_true (by omega)
     have hz2:((l2.length:Int)≤40)=True:=eq_true (by omega)
     have hz3:i<l2.length:=by omega
     obtain ⟨xi,hxi⟩:∃ x,ll[i]? = some x:=⟨ll[i]'(by omega),by simp⟩
     have hat:=inC_at hxi
     have hxx:=hxi
     obtain ⟨op,xa,xb,xc,xd⟩:=xi
     simp only at hat
     refine drvL Tryz.func48 ?_
     simp only [go_sem,rdr,hz1,hz2,hat,hz3]
     by_cases ho1:op=10
     ·subst ho1
      iterate 6 ((try (refine drvZ Tryz.func48 ?_;simp only [go_sem,rdr,hz1,hz2,hat,hz3]));((with_reducible and_intros)<;>try exact sd);(try first | refine XK.gs (DB false) ?_))
      refine again (i+1,pos,ll) some [] _ ⟨hi1,by simp only;omega,by simp only;omega,.inr (by simp only;omega)⟩ (by simp only;omega) ?_
      simp only [go_sem,TmOK,DM,DMs,CM,CMs,forall_eq,exists_eq_left,Mq,HpOK,LowOK,rdr]
      all_goals first | (simp [CMs_in];done) | (simp [CMs_in];omega)
     have b1:(op != 10)=true:=by simp [ho1]
     by_cases ho2:op=1
     ·subst ho2
      iterate 6 ((try (refine drvZ Tryz.func48 ?_;simp only [go_sem,rdr,hz1,hz2,hat,hz3]));((with_reducible and_intros)<;>try exact sd);(try first | refine XK.gs (DB false) ?_))
      refine again (i+1,pos,ll) some [] _ ⟨hi1,by simp only;omega,by simp only;omega,.inr (by simp only;omega)⟩ (by simp only;omega) ?_
      simp only [go_sem,TmOK,DM,DMs,CM,CMs,forall_eq,exists_eq_left,Mq,HpOK,LowOK,rdr]
      all_goals first | (simp [CMs_in];done) | (simp [CMs_in];omega)
     have b2:(op != 1)=true:=by simp [ho2]
     iterate 4 ((try (refine drvZ Tryz.func48 ?_;simp only [go_sem,rdr,hz1,hz2,hat,hz3,b1,b2]));((with_reducible and_intros)<;>try exact sd))
     refine XK.callT 16 true [0] (pick bs pos 4 hb hl (by omega) (by simp only [InK];omega)) ok71 (hhp_one rfl) (hbT ()) (fun d h' ⟨v,_,_,e⟩=>by subst e;simp) ?_
     rintro _ _ ⟨v,rfl,hv,rfl⟩ _
     clear hv
     by_cases hv0:v=0
     ·subst hv0
      obtain ⟨M,hM⟩:∃ M,l2.length=i+1+M:=⟨l2.length - i - 1,by omega⟩
      have hk:(l2.length:Int) - (i:Int) - 1=(M:Int):=by omega
      iterate 4 ((try (refine drvZ Tryz.func48 ?_;simp only [go_sem,rdr,hz1,hz2,hz3,hk]));((with_reducible and_intros)<;>try exact sd))
      refine XK.callG [0] (pick bs (pos+1) M hb hl (by omega) (by simp only [InK];omega)) ok71 (hhp_one rfl) (hbT ()) (fun d h' ⟨v,_,_,e⟩=>by subst e;simp) ?_ (fun _=>⟨by kernel_rfl,_,_,⟨0,rfl,by omega,rfl⟩,by simp⟩)
      rintro _ _ ⟨q,rfl,hq,rfl⟩ _
      have hq2:0≤q∧q<M:=by omega
      have hput:=inC_put hxx ⟨8,(i:Int)+1+q,0,0,0⟩
      simp only [putCells,inX] at hput
      iterate 4 ((try (refine drvZ Tryz.func48 ?_;simp only [go_sem,rdr,hz3,hput]));((with_reducible and_intros)<;>try exact sd))
      refine again (i+1,pos+2,ll.set i ⟨8,(i:Int)+1+q,0,0,0⟩) some [] _ ⟨by simp only [List.length_set];exact hi1,by simp only;omega,by simp only;omega,.inr (by simp only;omega)⟩ (by simp only;omega) ?_
      simp only [go_sem,TmOK,DM,DMs,CM,CMs,forall_eq,exists_eq_left,Mq,HpOK,LowOK,rdr,hput]
      all_goals first | (simp [CMs_in];done) | (simp [CMs_in];omega)
     ·have e0:(v == 0)=false:=by simp [hv0]
      iterate 4 ((try (refine drvZ Tryz.func48 ?_;simp only [go_sem,rdr,hz1,hz2,hz3,e0]));((with_reducible and_intros)<;>try exact sd))
      refine again (i+1,pos+1,ll) some [] _ ⟨hi1,by simp only;omega,by simp only;omega,.inr (by simp only;omega)⟩ (by simp only;omega) ?_
      simp only [go_sem,TmOK,DM,DMs,CM,CMs,forall_eq,exists_eq_left,Mq,HpOK,LowOK,rdr]
      all_goals first | (simp [CMs_in];done) | (simp [CMs_in];omega)
    ·have hx:¬ (l2.length:Int)≤40∨¬ (i:Int)+1<(l2.length:Int):=by omega
     clear again
     have fin:∀ (hp:Hp),hp 0=some (some (rdr bs pos))→hp 641=some (some (inC ll))→RetOb 1 R (.agg [isI vs2,isI ar2,.msl 641 5 0 l2.length]) hp:=fun hp f1 f2 =>
      RetOb.cdF (by rw [← hR];exact ⟨⟨vs2,ar2,ll⟩,rfl,by simp only;omega,by simp only;omega,by simp only;omega,pos,by omega,by omega,rfl⟩) (rdr_kf bs pos) f1 f2 hi1.symm (by decide)
     by_cases hy:(i:Int)+1<(l2.length:Int)
     ·have hz1:((i:Int)+1<(l2.length:Int))=True:=eq_true hy
      have hz2:((l2.length:Int)≤40)=False:=eq_false (by omega)
      refine drvL Tryz.func48 ?_
      simp only [go_sem,rdr,hz1,hz2]
      iterate 4 ((try (refine drvZ Tryz.func48 ?_;simp only [go_sem,rdr,hz1,hz2]));((with_reducible and_intros)<;>try exact sd))
      all_goals exact fin _ rfl rfl
     ·have hz1:((i:Int)+1<(l2.length:Int))=False:=eq_false hy
      refine drvL Tryz.func48 ?_
      simp only [go_sem,rdr,hz1]
      iterate 4 ((try (refine drvZ Tryz.func48 ?_;simp only [go_sem,rdr,hz1]));((with_reducible and_intros)<;>try exact sd);(try first | refine XK.gs (DB false) ?_))
      all_goals exact fin _ rfl rfl
   ·simp only [go_sem,TmOK,DM,DMs,CM,CMs,forall_eq,exists_eq_left,Mq,HpOK,LowOK,rdr]
    all_goals simp [CMs,kf,CMs_in]
  ·iterate 5 ((try (refine drvZ Tryz.func48 ?_;simp only [go_sem,rdr,renCs_in,renCs_I,cdC]));((with_reducible and_intros)<;>try exact sd))
   refine Go.loopQ (fun x : Nat × Nat × List In => [(0, .c (.ptr 0 0)), (2, .c (.ptr 1 0)), (3, .c (.ptr 193 0)), (6, DI .i64 (l.length : Nat)), (7, DI .i64 (x.1 : Nat))])
    (fun x=>[(0,some (rdr bs x.2.1)),(1,some [.v (.slice none 0 0),.v (.slice none 0 0),.v (.slice none 0 0)]),(193,some [isI vs,isI ar,.msl 129 5 0 l.length]),(129,some (inC x.2.2))])
    4096 (fun x=>x.2.2.length=l.length∧n2≤x.2.1∧x.2.1≤n2+2 * x.1∧(x.1=0∨(x.1+1≤l.length∧l.length≤40))) (fun x=>l.length - x.1) ?_ (0,n2,l) some [] _ ⟨rfl,Nat.le_refl _,Nat.le_refl _,.inl rfl⟩ ?_
   ·rintro ⟨i,pos,ll⟩ ⟨hi1,hi2,hi3,hi4⟩ again
    simp only at hi1 hi2 hi3 hi4 again ⊢
    have hil:=inC_len ll
    by_cases hc:i+1<l.length∧l.length≤40
    ·have hz1:((i:Int)+1<(l.length:Int))=True:=eq_true (by omega)
     have hz2:((l.length:Int)≤40)=True:=eq_true (by omega)
     have hz3:i<l.length:=by omega
     obtain ⟨xi,hxi⟩:∃ x,ll[i]? = some x:=⟨ll[i]'(by omega),by simp⟩
     have hat:=inC_at hxi
     have hxx:=hxi
     obtain ⟨op,xa,xb,xc,xd⟩:=xi
     simp only at hat
     refine drvL Tryz.func48 ?_
     simp only [go_sem,rdr,hz1,hz2,hat,hz3]
     by_cases ho1:op=10
     ·subst ho1
      iterate 6 ((try (refine drvZ Tryz.func48 ?_;simp only [go_sem,rdr,hz1,hz2,hat,hz3]));((with_reducible and_intros)<;>try exact sd);(try first | refine XK.gs (DB false) ?_))
      refine again (i+1,pos,ll) some [] _ ⟨hi1,by simp only;omega,by simp only;omega,.inr (by simp only;omega)⟩ (by simp only;omega) ?_
      simp only [go_sem,TmOK,DM,DMs,CM,CMs,forall_eq,exists_eq_left,Mq,HpOK,LowOK,rdr]
      all_goals first | (simp [CMs_in];done) | (simp [CMs_in];omega)
     have b1:(op != 10)=true:=by simp [ho1]
     by_cases ho2:op=1
     ·subst ho2
      iterate 6 ((try (refine drvZ Tryz.func48 ?_;simp only [go_sem,rdr,hz1,hz2,hat,hz3]));((with_reducible and_intros)<;>try exact sd);(try first | refine XK.gs (DB false) ?_))
      refine again (i+1,pos,ll) some [] _ ⟨hi1,by simp only;omega,by simp only;omega,.inr (by simp only;omega)⟩ (by simp only;omega) ?_
      simp only [go_sem,TmOK,DM,DMs,CM,CMs,forall_eq,exists_eq_left,Mq,HpOK,LowOK,rdr]
      all_goals first | (simp [CMs_in];done) | (simp [CMs_in];omega)
     have b2:(op != 1)=true:=by simp [ho2]
     iterate 4 ((try (refine drvZ Tryz.func48 ?_;simp only [go_sem,rdr,hz1,hz2,hat,hz3,b1,b2]));((with_reducible and_intros)<;>try exact sd))
     refine XK.callT 16 true [0] (pick bs pos 4 hb hl (by omega) (by simp only [InK];omega)) ok71 (hhp_one rfl) (hbT ()) (fun d h' ⟨v,_,_,e⟩=>by subst e;simp) ?_
     rintro _ _ ⟨v,rfl,hv,rfl⟩ _
     clear hv
     by_cases hv0:v=0
     ·subst hv0
      obtain ⟨M,hM⟩:∃ M,l.length=i+1+M:=⟨l.length - i - 1,by omega⟩
      have hk:(l.length:Int) - (i:Int) - 1=(M:Int):=by omega
      iterate 4 ((try (refine drvZ Tryz.func48 ?_;simp only [go_sem,rdr,hz1,hz2,hz3,hk]));((with_reducible and_intros)<;>try exact sd))
      refine XK.callG [0] (pick bs (pos+1) M hb hl (by omega) (by simp only [InK];omega)) ok71 (hhp_one rfl) (hbT ()) (fun d h' ⟨v,_,_,e⟩=>by subst e;simp) ?_ (fun _=>⟨by kernel_rfl,_,_,⟨0,rfl,by omega,rfl⟩,by simp⟩)
      rintro _ _ ⟨q,rfl,hq,rfl⟩ _
      have hq2:0≤q∧q<M:=by omega
      have hput:=inC_put hxx ⟨8,(i:Int)+1+q,0,0,0⟩
      simp only [putCells,inX] at hput
      iterate 4 ((try (refine drvZ Tryz.func48 ?_;simp only [go_sem,rdr,hz3,hput]));((with_reducible and_intros)<;>try exact sd))
      refine again (i+1,pos+2,ll.set i ⟨8,(i:Int)+1+q,0,0,0⟩) some [] _ ⟨by simp only [List.length_set];exact hi1,by simp only;omega,by simp only;omega,.inr (by simp only;omega)⟩ (by simp only;omega) ?_
      simp only [go_sem,TmOK,DM,DMs,CM,CMs,forall_eq,exists_eq_left,Mq,HpOK,LowOK,rdr,hput]
      all_goals first | (simp [CMs_in];done) | (simp [CMs_in];omega)
     ·have e0:(v == 0)=false:=by simp [hv0]
      iterate 4 ((try (refine drvZ Tryz.func48 ?_;simp only [go_sem,rdr,hz1,hz2,hz3,e0]));((with_reducible and_intros)<;>try exact sd))
      refine again (i+1,pos+1,ll) some [] _ ⟨hi1,by simp only;omega,by simp only;omega,.inr (by simp only;omega)⟩ (by simp only;omega) ?_
      simp only [go_sem,TmOK,DM,DMs,CM,CMs,forall_eq,exists_eq_left,Mq,HpOK,LowOK,rdr]
      all_goals first | (simp [CMs_in];done) | (simp [CMs_in];omega)
    ·have hx:¬ (l.length:Int)≤40∨¬ (i:Int)+1<(l.length:Int):=by omega
     clear again
     have fin:∀ (hp:Hp),hp 0=some (some (rdr bs pos))→hp 129=some (some (inC ll))→RetOb 1 R (.agg [isI vs,isI ar,.msl 129 5 0 l.length]) hp:=fun hp f1 f2 =>
      RetOb.cdF (by rw [← hR];exact ⟨⟨vs,ar,ll⟩,rfl,by simp only;omega,by simp only;omega,by simp only;omega,pos,by omega,by omega,rfl⟩) (rdr_kf bs pos) f1 f2 hi1.symm (by decide)
     by_cases hy:(i:Int)+1<(l.length:Int)
     ·exfalso;omega
     ·have hz1:((i:Int)+1<(l.length:Int))=False:=eq_false hy
      refine drvL Tryz.func48 ?_
      simp only [go_sem,rdr,hz1]
      iterate 4 ((try (refine drvZ Tryz.func48 ?_;simp only [go_sem,rdr,hz1]));((with_reducible and_intros)<;>try exact sd);(try first | refine XK.gs (DB false) ?_))
      all_goals exact fin _ rfl rfl
   ·simp only [go_sem,TmOK,DM,DMs,CM,CMs,forall_eq,exists_eq_left,Mq,HpOK,LowOK,rdr]
    all_goals simp [CMs,kf,CMs_in]
 ·have e0:(v == 0)=false:=by simp [hv0]
  iterate 5 ((try (refine drvZ Tryz.func48 ?_;simp only [go_sem,rdr,renCs_in,e0]));((with_reducible and_intros)<;>try exact sd))
  refine Go.loopQ (fun x : Nat × Nat × List In => [(0, .c (.ptr 0 0)), (2, .c (.ptr 1 0)), (3, .c (.ptr 193 0)), (6, DI .i64 (l.length : Nat)), (7, DI .i64 (x.1 : Nat))])
   (fun x=>[(0,some (rdr bs x.2.1)),(1,some [.v (.slice none 0 0),.v (.slice none 0 0),.v (.slice none 0 0)]),(193,some [isI vs,isI ar,.msl 129 5 0 l.length]),(129,some (inC x.2.2))])
   4096 (fun x=>x.2.2.length=l.length∧(n1+1)≤x.2.1∧x.2.1≤(n1+1)+2 * x.1∧(x.1=0∨(x.1+1≤l.length∧l.length≤40))) (fun x=>l.length - x.1) ?_ (0,(n1+1),l) some [] _ ⟨rfl,Nat.le_refl _,Nat.le_refl _,.inl rfl⟩ ?_
  ·rintro ⟨i,pos,ll⟩ ⟨hi1,hi2,hi3,hi4⟩ again
   simp only at hi1 hi2 hi3 hi4 again ⊢
   have hil:=inC_len ll
   by_cases hc:i+1<l.length∧l.length≤40
   ·have hz1:((i:Int)+1<(l.length:Int))=True:=eq_true (by omega)
    have hz2:((l.length:Int)≤40)=True:=eq_true (by omega)
    have hz3:i<l.length:=by omega
    obtain ⟨xi,hxi⟩:∃ x,ll[i]? = some x:=⟨ll[i]'(by omega),by simp⟩
    have hat:=inC_at hxi
    have hxx:=hxi
    obtain ⟨op,xa,xb,xc,xd⟩:=xi
    simp only at hat
    refine drvL Tryz.func48 ?_
    simp only [go_sem,rdr,hz1,hz2,hat,hz3]
    by_cases ho1:op=10
    ·subst ho1
     iterate 6 ((try (refine drvZ Tryz.func48 ?_;simp only [go_sem,rdr,hz1,hz2,hat,hz3]));((with_reducible and_intros)<;>try exact sd);(try first | refine XK.gs (DB false) ?_))
     refine again (i+1,pos,ll) some [] _ ⟨hi1,by simp only;omega,by simp only;omega,.inr (by simp only;omega)⟩ (by simp only;omega) ?_
     simp only [go_sem,TmOK,DM,DMs,CM,CMs,forall_eq,exists_eq_left,Mq,HpOK,LowOK,rdr]
     all_goals first | (simp [CMs_in];done) | (simp [CMs_in];omega)
    have b1:(op != 10)=true:=by simp [ho1]
    by_cases ho2:op=1
    ·subst ho2
     iterate 6 ((try (refine drvZ Tryz.func48 ?_;simp only [go_sem,rdr,hz1,hz2,hat,hz3]));((with_reducible and_intros)<;>try exact sd);(try first | refine XK.gs (DB false) ?_))
     refine again (i+1,pos,ll) some [] _ ⟨hi1,by simp only;omega,by simp only;omega,.inr (by simp only;omega)⟩ (by simp only;omega) ?_
     simp only [go_sem,TmOK,DM,DMs,CM,CMs,forall_eq,exists_eq_left,Mq,HpOK,LowOK,rdr]
     all_goals first | (simp [CMs_in];done) | (simp [CMs_in];omega)
    have b2:(op != 1)=true:=by simp [ho2]
    iterate 4 ((try (refine drvZ Tryz.func48 ?_;simp only [go_sem,rdr,hz1,hz2,hat,hz3,b1,b2]));((with_reducible and_intros)<;>try exact sd))
    refine XK.callT 16 true [0] (pick bs pos 4 hb hl (by omega) (by simp only [InK];omega)) ok71 (hhp_one rfl) (hbT ()) (fun d h' ⟨v,_,_,e⟩=>by subst e;simp) ?_
    rintro _ _ ⟨v,rfl,hv,rfl⟩ _
    clear hv
    by_cases hv0:v=0
    ·subst hv0
     obtain ⟨M,hM⟩:∃ M,l.length=i+1+M:=⟨l.length - i - 1,by omega⟩
     have hk:(l.length:Int) - (i:Int) - 1=(M:Int):=by omega
     iterate 4 ((try (refine drvZ Tryz.func48 ?_;simp only [go_sem,rdr,hz1,hz2,hz3,hk]));((with_reducible and_intros)<;>try exact sd))
     refine XK.callG [0] (pick bs (pos+1) M hb hl (by omega) (by simp only [InK];omega)) ok71 (hhp_one rfl) (hbT ()) (fun d h' ⟨v,_,_,e⟩=>by subst e;simp) ?_ (fun _=>⟨by kernel_rfl,_,_,⟨0,rfl,by omega,rfl⟩,by simp⟩)
     rintro _ _ ⟨q,rfl,hq,rfl⟩ _
     have hq2:0≤q∧q<M:=by omega
     have hput:=inC_put hxx ⟨8,(i:Int)+1+q,0,0,0⟩
     simp only [putCells,inX] at hput
     iterate 4 ((try (refine drvZ Tryz.func48 ?_;simp only [go_sem,rdr,hz3,hput]));((with_reducible and_intros)<;>try exact sd))
     refine again (i+1,pos+2,ll.set i ⟨8,(i:Int)+1+q,0,0,0⟩) some [] _ ⟨by simp only [List.length_set];exact hi1,by simp only;omega,by simp only;omega,.inr (by simp only;omega)⟩ (by simp only;omega) ?_
     simp only [go_sem,TmOK,DM,DMs,CM,CMs,forall_eq,exists_eq_left,Mq,HpOK,LowOK,rdr,hput]
     all_goals first | (simp [CMs_in];done) | (simp [CMs_in];omega)
    ·have e0:(v == 0)=false:=by simp [hv0]
     iterate 4 ((try (refine drvZ Tryz.func48 ?_;simp only [go_sem,rdr,hz1,hz2,hz3,e0]));((with_reducible and_intros)<;>try exact sd))
     refine again (i+1,pos+1,ll) some [] _ ⟨hi1,by simp only;omega,by simp only;omega,.inr (by simp only;omega)⟩ (by simp only;omega) ?_
     simp only [go_sem,TmOK,DM,DMs,CM,CMs,forall_eq,exists_eq_left,Mq,HpOK,LowOK,rdr]
     all_goals first | (simp [CMs_in];done) | (simp [CMs_in];omega)
   ·have hx:¬ (l.length:Int)≤40∨¬ (i:Int)+1<(l.length:Int):=by omega
    clear again
    have fin:∀ (hp:Hp),hp 0=some (some (rdr bs pos))→hp 129=some (some (inC ll))→RetOb 1 R (.agg [isI vs,isI ar,.msl 129 5 0 l.length]) hp:=fun hp f1 f2 =>
     RetOb.cdF (by rw [← hR];exact ⟨⟨vs,ar,ll⟩,rfl,by simp only;omega,by simp only;omega,by simp only;omega,pos,by omega,by omega,rfl⟩) (rdr_kf bs pos) f1 f2 hi1.symm (by decide)
    by_cases hy:(i:Int)+1<(l.length:Int)
    ·exfalso;omega
    ·have hz1:((i:Int)+1<(l.length:Int))=False:=eq_false hy
     refine drvL Tryz.func48 ?_
     simp only [go_sem,rdr,hz1]
     iterate 4 ((try (refine drvZ Tryz.func48 ?_;simp only [go_sem,rdr,hz1]));((with_reducible and_intros)<;>try exact sd);(try first | refine XK.gs (DB false) ?_))
     all_goals exact fin _ rfl rfl
  ·simp only [go_sem,TmOK,DM,DMs,CM,CMs,forall_eq,exists_eq_left,Mq,HpOK,LowOK,rdr]
   all_goals simp [CMs,kf,CMs_in]
theorem TL.nil {tm:Nat→Option D}:∀ p ∈ ([]:List (Nat × D)),tm p.1=some p.2∧WsD p.2:=fun p h=>by simp at h
theorem TL.cons {tm:Nat→Option D} {n:Nat} {d:D} {l:List (Nat × D)} (h1:tm n=some d) (h2:WsD d) (h:∀ p ∈ l,tm p.1=some p.2∧WsD p.2):∀ p ∈ (n,d) :: l,tm p.1=some p.2∧WsD p.2:=fun p hp=>by
 rcases List.mem_cons.1 hp with rfl | hp
 ·exact ⟨h1,h2⟩
 ·exact h p hp
theorem hh1 {hp:Hp} {n:Nat} {cs0:List C} (h0:∀ c ∈ cs0,Ws c) (h:∀ k cs,hp k=some (some cs)→∀ c ∈ cs,Ws c):∀ k cs,upd hp n (some (some cs0)) k=some (some cs)→∀ c ∈ cs,Ws c:=fun k cs e=>by
 simp only [upd] at e
 split at e
 ·cases e;exact h0
 ·exact h k cs e
theorem ML.nil {hT:Hp} {tm:Nat→Option D}:∀ p ∈ ([]:List (Nat × D)),∃ d,tm p.1=some d∧SmD hT d p.2:=fun p h=>by simp at h
theorem ML.cons {hT:Hp} {tm:Nat→Option D} {n:Nat} {d0 d:D} {l:List (Nat × D)} (h1:tm n=some d0) (h2:SmD hT d0 d) (h:∀ p ∈ l,∃ d,tm p.1=some d∧SmD hT d p.2):∀ p ∈ (n,d) :: l,∃ d,tm p.1=some d∧SmD hT d p.2:=fun p hp=>by
 rcases List.mem_cons.1 hp with rfl | hp
 ·exact ⟨d0,h1,h2⟩
 ·exact h p hp
theorem HL.nil {hT hp:Hp}:∀ p ∈ ([]:List (Nat × Option (List C))),∃ cs cs',hp p.1=some (some cs)∧p.2=some cs'∧Sms hT cs cs':=fun p h=>by simp at h
theorem HL.cons {hT hp : Hp} {n : Nat} {cs0 cs1 : List C} {l : List (Nat × Option (List C))} (h1 : hp n = some (some cs0)) (h2 : Sms hT cs0 cs1) (h : ∀ p ∈ l, ∃ cs cs', hp p.1 = some (some cs) ∧ p.2 = some cs' ∧ Sms hT cs cs') :
 ∀ p ∈ (n,some cs1) :: l,∃ cs cs',hp p.1=some (some cs)∧p.2=some cs'∧Sms hT cs cs':=fun p hp=>by
 rcases List.mem_cons.1 hp with rfl | hp
 ·exact ⟨cs0,cs1,h1,rfl,h2⟩
 ·exact h p hp
end Go.Proofs.YtbknljofedfpjaaGreat.CtD
