/- Contracts of functions of the program, one behind the other, as plain data: what each call returns and which blocks it leaves. -/
import Derived.Test.YtoakidkcppinpaaGreatDFacts
import Derived.Test.YtoakidkcppinpaaGreatDAk
import Derived.Test.YtoakidkcppinpaaGreatDAl
import Derived.Test.YtoakidkcppinpaaGreatDAm
import Derived.Test.YtoakidkcppinpaaGreatDAn
import Derived.Test.YtoakidkcppinpaaGreatDAo
import Derived.Test.YtoakidkcppinpaaGreatDAq
import Derived.Test.YtoakidkcppinpaaGreatDAs
import Derived.Test.YtoakidkcppinpaaGreatDAt
import Derived.Test.YtoakidkcppinpaaGreatDAu
import Derived.Test.YtoakidkcppinpaaGreatDAw
import Derived.Test.YtoakidkcppinpaaGreatDAz
import Derived.Test.YtoakidkcppinpaaGreatDBa
import Derived.Test.YtoakidkcppinpaaGreatDBc
import Derived.Test.YtoakidkcppinpaaGreatDAi
import Derived.Test.YtoakidkcppinpaaGreatDAx
import Derived.Test.YtoakidkcppinpaaGreatDAp
import Derived.Test.YtoakidkcppinpaaGreatDAj
import Derived.Test.YtoakidkcppinpaaGreatDAr
set_option linter.unusedVariables false
set_option linter.unusedSimpArgs false
set_option linter.unusedSectionVars false
set_option maxHeartbeats 16000000
set_option maxRecDepth 100000
namespace Go.Proofs.YtoakidkcppinpaaGreat.CtD
open Go Go.CT CtF CtR
variable [Yn]
open CtL (In Cd kindsOf)
theorem prog_lab {p:Pg} (h:progOK p=true):(∀ x ∈ p.vars,0≤x∧x≤3)∧∀ x ∈ p.arrays,0≤x∧x≤3:=by
 simp only [progOK,headsOK,Bool.and_eq_true] at h
 obtain ⟨⟨⟨⟨⟨_,h1⟩,h2⟩,h3⟩,_⟩,_⟩:=h
 simp_all [labs]
theorem l6RandomO (bs : List Int) (n : Nat) (vs ar : List Int) (LC : List C) (m at_ N : Nat) (hb : Fits .u8 bs) (hl : bs.length ≤ 2000) (hn : n ≤ 274877906944) (hv : 1 ≤ vs.length ∧ vs.length ≤ 13) (ha : ar.length ≤ 2) (hat : at_ + 1 < N) (hN : N ≤ 13) (hLC : ∀ c ∈ LC, kf c = true) :
 DC Tryz.prog 67 [.c (.ptr 0 0), .agg [.msl 2 1 0 vs.length, .msl 3 1 0 ar.length, .msl 1 5 0 m], DI .i64 at_, DI .i64 N] [some (rdr bs n), some LC, some (vs.map I64), some (ar.map I64)]
  (fun r h=>∃ x:In,r = .agg (inX x)∧∃ n':Nat,n≤n'∧n'≤n+50∧h=[some (rdr bs n'),some LC,some (vs.map I64),some (ar.map I64)]):=by
 refine DC_imp (DC.lit (h := [some (rdr bs n), some LC]) (hB := [some (vs.map I64), some (ar.map I64)]) (R := rnR bs n LC) (lit2 (n := 2) (d0 := .c (.ptr 0 0)) (kx := 2) (ky := 3) (lx := vs.length) (ly := ar.length) (cr := [.msl 1 5 0 m]) (dr := [DI .i64 at_, DI .i64 N]) rfl rfl rfl)
  (fun args ⟨x,y,hx,hy,e⟩=>by subst e;exact l6RandomV bs n x y LC m at_ N hb hl hn (by omega) (by omega) hat hN hLC) (fun cs hcs c hc=>by
   simp only [List.mem_cons,List.not_mem_nil,or_false,Option.some.injEq] at hcs
   rcases hcs with rfl | rfl
   ·exact rdr_kf _ _ c hc
   ·exact hLC c hc) (fun d h' ⟨_,_,_,_,_,e⟩=>by subst e;rfl)) ?_
 rintro d h' ⟨_,⟨x,rfl,n',q3,q4,rfl⟩,rfl⟩
 exact ⟨x,rfl,n',q3,q4,rfl⟩
def co6RO (bs:List Int) (n:Nat) (r:D) (h:List (Option (List C))):Prop:=∃ (vs ar:List Int) (l:List In),r = .agg [.msl 1 1 0 vs.length,.msl 2 1 0 ar.length,.msl 3 5 0 l.length]∧(1≤vs.length∧vs.length≤13)∧ar.length≤2∧(1≤l.length∧l.length≤13)∧(∀ x ∈ vs,0≤x∧x≤3)∧(∀ x ∈ ar,0≤x∧x≤3)∧∃ n':Nat,n≤n'∧n'≤n+1001000∧h=[some (rdr bs n'),some (vs.map I64),some (ar.map I64),some (inC l)]
theorem l6CodeO (bs:List Int) (n:Nat) (hb:Fits .u8 bs) (hl:bs.length≤2000) (hn:n≤270000000000):DC Tryz.prog 40 [.c (.ptr 0 0)] [some (rdr bs n)] (co6RO bs n):=by
 have hmx:=mx_eq
 have hpr:=l2ProgramO bs n hb hl (by omega)
 have hrnd:=fun n vs ar LC m at_ N h1 h2 h3 h4 h5 h6=>l6RandomO bs n vs ar LC m at_ N hb hl h1 h2 h3 h4 h5 h6
 generalize hR:co6RO bs n=R
 refine dcZ Tryz.func40 ?_
 simp only [go_sem,rdr,renCs_I]
 ((try (refine drvZ Tryz.func40 ?_;simp only [go_sem,rdr,renCs_I]));((with_reducible and_intros)<;>try exact sd))
 refine XK.callG [0] hpr ok42 (hhp_one rfl) (hbT ()) (fun d h' ⟨_,_,_,_,_,_,_,_,e⟩=>by subst e;simp) ?_
 rintro _ _ ⟨vs,ar,bd,rfl,hp,n1,hn1,hn2,rfl⟩ _
 have hln:=prog_len hp.ok
 have hlb:=prog_lab hp.ok
 have hnum:=num bs n1 [6,8,4,10,1,12] hb hl (by omega) (by decide) (by decide)
 simp only at hln
 iterate 4 ((try (refine drvZ Tryz.func40 ?_;simp only [go_sem,rdr,renCs_I]));((with_reducible and_intros)<;>try exact sd))
 refine XK.callG [0,833] (numO bs n1 [6,8,4,10,1,12] hb hl (by omega) (by decide) (by decide)) ok20 (hhp2 rfl rfl) (hbT ()) (fun d h' ⟨_,_,_,e⟩=>by subst e;simp) ?_
 rintro _ _ ⟨o,rfl,ho,rfl⟩ _
 have ho2:1≤o∧o≤12:=by simp at ho;omega
 obtain ⟨N,rfl⟩:∃ N:Nat,o=N:=⟨o.toNat,by omega⟩
 clear ho
 iterate 3 ((try (refine drvZ Tryz.func40 ?_;simp only [go_sem,rdr,renCs_I]));((with_reducible and_intros)<;>try exact sd))
 refine Go.loopQ (fun x : Nat × List In => [(0, .c (.ptr 0 0)), (2, .c (.ptr 1 0)), (4, .c (.ptr 641 0)), (5, DI .i64 N), (6, DI .i64 x.2.length)])
  (fun x=>[(0,some (rdr bs x.1)),(1,some [.v (.slice none 0 0),.v (.slice none 0 0),.v (.slice none 0 0)]),(641,some [.msl 129 1 0 vs.length,.msl 130 1 0 ar.length,.msl 700 5 0 x.2.length]),(129,some (vs.map I64)),(130,some (ar.map I64)),(700,some (inC x.2))])
  4096 (fun x=>x.2.length+1≤N∧n1+1≤x.1∧x.1≤n1+1+50 * x.2.length) (fun x=>N - x.2.length) ?_ (n1+1,[]) (fun j=>if j=700 then none else some j) [] _ ⟨by simp;omega,by simp,by simp⟩ ?_
 ·rintro ⟨pos,l⟩ ⟨hi1,hi2,hi3⟩ again
  simp only at hi1 hi2 hi3 again ⊢
  rcases Nat.lt_or_ge (l.length+1) N with hlt | hge
  ·have hz:((l.length:Int)<(N:Int) - 1)=True:=eq_true (by omega)
   have hil:=inC_len l
   have hrn:=hrnd pos vs ar (inC l) l.length l.length N (by omega) ⟨hln.1,by omega⟩ hln.2.2 hlt (by omega) (inC_kf l)
   refine drvL Tryz.func40 ?_
   simp only [go_sem,rdr,renCs_I,hz]
   iterate 3 ((try (refine drvZ Tryz.func40 ?_;simp only [go_sem,rdr,renCs_I,hz]));((with_reducible and_intros)<;>try exact sd))
   refine XK.callG [0,700,129,130] hrn ok67 (hhpG (by simp [HH,upd,hOf,hpL,renCs_in,renCs_rdr,renCs_I,renCs,renC,rk0,rdr])) (hbT ()) (fun d h' ⟨_,_,_,_,_,e⟩=>by subst e;simp) ?_ (fun _=>⟨by kernel_rfl,_,_,⟨⟨0,0,0,0,0⟩,rfl,pos,by omega,by omega,rfl⟩,by simp⟩)
   rintro _ _ ⟨x,rfl,pos2,hp1,hp2,rfl⟩ _
   obtain ⟨xo,xa,xb,xc,xd⟩:=x
   iterate 4 ((try (refine drvZ Tryz.func40 ?_;simp only [go_sem,rdr,renCs_I,inX,renCs_in]));((with_reducible and_intros)<;>try exact sd))
   have hsn:inC l++[.v (.int .i64 xo),.v (.int .i64 xa),.v (.int .i64 xb),.v (.int .i64 xc),.v (.int .i64 xd)]=inC (l++[⟨xo,xa,xb,xc,xd⟩]):=by rw [inC_app,inC_one];rfl
   refine again (pos2,l++[⟨xo,xa,xb,xc,xd⟩]) (fun j=>if j=700 then some 4864 else some j) [] _ ⟨by simp;omega,by omega,by simp;omega⟩ (by simp;omega) ?_
   simp only [go_sem,TmOK,DM,DMs,CM,CMs,forall_eq,exists_eq_left,Mq,HpOK,LowOK,rdr,renCs_I,hsn]
   simp [CMs_in,CMs_I]
  ·have hz:((l.length:Int)<(N:Int) - 1)=False:=eq_false (by omega)
   have hil:=inC_len l
   clear again
   refine drvL Tryz.func40 ?_
   simp only [go_sem,rdr,renCs_I,hz]
   iterate 5 ((try (refine drvZ Tryz.func40 ?_;simp only [go_sem,rdr,renCs_I,hz]));((with_reducible and_intros)<;>try exact sd))
   have hsn:inC l++[.v (.int .i64 13),.v (.int .i64 0),.v (.int .i64 0),.v (.int .i64 0),.v (.int .i64 0)]=inC (l++[⟨13,0,0,0,0⟩]):=by rw [inC_app,inC_one];rfl
   have fin:∀ (l2:List In) (ps nb:Nat) (hp:Hp),l2.length=N→nb=N→n≤ps→ps≤n+1001000→hp 0=some (some (rdr bs ps))→hp 4608=some (some (inC l2))→hp 129=some (some (vs.map I64))→hp 130=some (some (ar.map I64))→RetOb 1 R (.agg [.msl 129 1 0 vs.length,.msl 130 1 0 ar.length,.msl 4608 5 0 nb]) hp:=fun l2 ps nb hp f1 f2 f3 f4 f5 f6 f7 f8=>by
    subst f2
    refine RetOb.ofQ (fun j=>if j=0 then some 0 else if j=1 then some 129 else if j=2 then some 130 else if j=3 then some 4608 else none) [] (.agg [.msl 1 1 0 vs.length,.msl 2 1 0 ar.length,.msl 3 5 0 l2.length]) [some (rdr bs ps),some (vs.map I64),some (ar.map I64),some (inC l2)] ?_ (by rw [← hR];exact ⟨vs,ar,l2,rfl,⟨hln.1,by omega⟩,hln.2.2,by omega,hlb.1,hlb.2,ps,by omega,by omega,rfl⟩) (by simp)
    simp [enumL,hOf,DM,DMs,CM,CMs,HpOK,LowOK,upd,rdr,isI,kf,CMs_in,CMs_I,f1,f5,f6,f7,f8]
   by_cases h3:3<N
   ·have g3:((3:Int)<(N:Int))=True:=eq_true (by omega)
    iterate 4 ((try (refine drvZ Tryz.func40 ?_;simp only [go_sem,rdr,renCs_I,g3,hsn]));((with_reducible and_intros)<;>try exact sd))
    refine XK.callT 2 true [0] (pick bs pos 4 hb hl (by omega) (by simp only [InK];omega)) ok16 (hhp_one rfl) (hbT ()) (fun d h' ⟨v,_,_,e⟩=>by subst e;simp) ?_
    rintro _ _ ⟨v,rfl,hv,rfl⟩ _
    clear hv
    by_cases hv0:v=0
    ·subst hv0
     obtain ⟨K,hK⟩:∃ K,N=K+2:=⟨N - 2,by omega⟩
     have hk2:(N:Int) - 2=(K:Int):=by omega
     have hlen2:(l++[⟨13,0,0,0,0⟩]:List In).length=N:=by simp;omega
     obtain ⟨x0,hx0⟩:∃ x,(l++[⟨13,0,0,0,0⟩]:List In)[0]? = some x:=⟨_,List.getElem?_eq_getElem (by rw [hlen2];omega)⟩
     have hlc:=inC_len (l++[⟨13,0,0,0,0⟩])
     generalize (l++[⟨13,0,0,0,0⟩]:List In)=L2 at *
     iterate 3 ((try (refine drvZ Tryz.func40 ?_;simp only [go_sem,rdr,renCs_I]));((with_reducible and_intros)<;>try exact sd))
     refine XK.callG [0] (pick bs (pos+1) 3 hb hl (by omega) (by simp only [InK];omega)) ok16 (hhp_one rfl) (hbT ()) (fun d h' ⟨v,_,_,e⟩=>by subst e;simp) ?_ (fun _=>⟨by kernel_rfl,_,_,⟨0,rfl,by omega,rfl⟩,by simp⟩)
     rintro _ _ ⟨q,rfl,hq,rfl⟩ _
     have hq2:0≤q∧q<3:=by omega
     have hp0:=inC_put hx0 ⟨1,5,1+q,0,0⟩
     simp only [putCells,inX,Nat.zero_mul,Nat.zero_add,Nat.reduceAdd] at hp0
     have hl3:(L2.set 0 ⟨1,5,1+q,0,0⟩).length=N:=by rw [List.length_set,hlen2]
     obtain ⟨xK,hxK⟩:∃ x,(L2.set 0 ⟨1,5,1+q,0,0⟩)[K]? = some x:=⟨_,List.getElem?_eq_getElem (by rw [hl3];omega)⟩
     have hlc3:=inC_len (L2.set 0 ⟨1,5,1+q,0,0⟩)
     have hpK:=inC_put hxK ⟨10,5,1,0,0⟩
     simp only [putCells,inX] at hpK
     have hlf:((L2.set 0 ⟨1,5,1+q,0,0⟩).set K ⟨10,5,1,0,0⟩).length=N:=by rw [List.length_set,hl3]
     generalize (L2.set 0 ⟨1,5,1+q,0,0⟩)=L3 at *
     iterate 4 ((try (refine drvZ Tryz.func40 ?_;simp only [go_sem,rdr,renCs_I,hp0,hk2]));((with_reducible and_intros)<;>try exact sd))
     exact fin (L3.set K ⟨10,5,1,0,0⟩) (pos+2) _ _ hlf (by omega) (by omega) (by omega) rfl (congrArg (fun x=>some (some x)) hpK) rfl rfl
    ·have e0:(v == 0)=false:=by simp [hv0]
     iterate 4 ((try (refine drvZ Tryz.func40 ?_;simp only [go_sem,rdr,renCs_I,e0]));((with_reducible and_intros)<;>try exact sd))
     exact fin (l++[⟨13,0,0,0,0⟩]) (pos+1) _ _ (by simp;omega) (by omega) (by omega) (by omega) rfl rfl rfl rfl
   ·have g3:((3:Int)<(N:Int))=False:=eq_false (by omega)
    iterate 6 ((try (refine drvZ Tryz.func40 ?_;simp only [go_sem,rdr,renCs_I,g3,hsn]));((with_reducible and_intros)<;>try exact sd);(try first | refine XK.gs (DB false) ?_))
    exact fin (l++[⟨13,0,0,0,0⟩]) pos _ _ (by simp;omega) (by omega) (by omega) (by omega) rfl rfl rfl rfl
 ·simp only [go_sem,TmOK,DM,DMs,CM,CMs,forall_eq,exists_eq_left,Mq,HpOK,LowOK,rdr,renCs_I]
  simp [CMs,kf,inC,CMs_I]
theorem l6CodeL (bs:List Int) (n:Nat) (hb:Fits .u8 bs) (hl:bs.length≤2000) (hn:n≤270000000000):DC Tryz.prog 40 [.c (.ptr 0 0)] [some (rdr bs n)] (co6R bs n) :=
 DC.weaken (l6CodeO bs n hb hl hn) (fun d h' ⟨vs,ar,l,e,g1,g2,g3,_,_,n',q1,q2,e2⟩ _=>by
  subst e e2
  refine RetOb.ofQ (fun j=>if j=0 then some 0 else if j=1 then some 3 else none) [1,2] (.agg [isI vs,isI ar,.msl 1 5 0 l.length]) [some (rdr bs n'),some (inC l)] ?_ ⟨vs,ar,l,rfl,g1,g2,g3,n',q1,q2,rfl⟩ (by simp)
  simp [isI,enumL,hOf,DM,DMs,CM,CMs,HpOK,LowOK,upd,rdr,kf,flat_I',hpL,CMs_in])
open CtL (In Cd)
theorem RetOb.cdF {R : D → List (Option (List C)) → Prop} {vs ar : List Int} {l : List In} {hp : Hp} {k2 nb : Nat} {rc : List C} (hR : R (.agg (cdC ⟨vs, ar, l⟩)) [some rc]) (hrc : ∀ c ∈ rc, kf c = true)
 (hz:hp 0=some (some rc)) (h2:hp k2=some (some (inC l))) (hb:nb=l.length) (hne:0 ≠ k2):RetOb 1 R (.agg [isI vs,isI ar,.msl k2 5 0 nb]) hp:=by
 subst hb
 refine RetOb.ofQ (fun j=>if j=0 then some 0 else none) [k2] _ [some rc] ?_ hR (by simp)
 have e4:∀ {hT hS:Hp} {r:Nat→Option Nat} {fz:List Nat},CMs hT r hS fz rc rc=True:=eq_true (CMs.kf hrc)
 have g2:=in_len5 l
 have g3:=in_kf5 l
 simp [-List.mem_map,enumL,DM,DMs,CM,CMs,HpOK,LowOK,hOf,upd,cdC,isI,kf,e4,hz,h2,in_flat,hne]
 first | exact ⟨g2,g3⟩ | skip
theorem inC_at {l:List In} {i:Nat} {x:In} (h:l[i]? = some x):(inC l)[i * 5]? = some (I64 x.op):=by
 have hi:i<l.length:=(List.getElem?_eq_some_iff.1 h).1
 have hlen:(inC (l.take i)).length=i * 5:=by rw [inC_len,List.length_take,Nat.min_eq_left (by omega)]
 rw [inC_split h,List.append_assoc,List.getElem?_append_right (by omega),hlen,Nat.sub_self]
 cases x;rfl
def ju6R (bs:List Int) (n:Nat) (r:D) (h:List (Option (List C))):Prop:=∃ c:Cd,r = .agg (cdC c)∧c.vars.length≤13∧c.arrays.length≤2∧c.list.length≤400∧rdL bs n 3000000 h
theorem l8JumpsL (bs:List Int) (n:Nat) (hb:Fits .u8 bs) (hl:bs.length≤2000) (hn:n≤200000000000):DC Tryz.prog 15 [.c (.ptr 0 0)] [some (rdr bs n)] (ju6R bs n):=by
 have hmx:=mx_eq
 have hco:=l6CodeL bs n hb hl (by omega)
 generalize hR:ju6R bs n=R
 refine dcZ Tryz.func15 ?_
 simp only [go_sem,rdr]
 ((try (refine drvZ Tryz.func15 ?_;simp only [go_sem,rdr]));((with_reducible and_intros)<;>try exact sd))
 refine XK.callG [0] hco ok40 (hhp_one rfl) (hbT ()) (fun d h' ⟨_,_,_,_,_,_,_,_,_,_,e⟩=>by subst e;simp) ?_
 rintro _ _ ⟨vs,ar,l,rfl,hvs,har,hll,n1,hn1,hn2,rfl⟩ _
 iterate 3 ((try (refine drvZ Tryz.func15 ?_;simp only [go_sem,rdr,renCs_in]));((with_reducible and_intros)<;>try exact sd))
 refine XK.callG [0] (pick bs n1 2 hb hl (by omega) (by simp only [InK];omega)) ok16 (hhp_one rfl) (hbT ()) (fun d h' ⟨v,_,_,e⟩=>by subst e;simp) ?_
 rintro _ _ ⟨v,rfl,hv,rfl⟩ _
 clear hv
 have hv1:v=0∨v ≠ 0:=Classical.em _
 rcases hv1 with rfl | hv0
 case' inl =>
  have hpr:=l2Program bs (n1+1) hb hl (by omega)
  iterate 3 ((try (refine drvZ Tryz.func15 ?_;simp only [go_sem,rdr,renCs_in]));((with_reducible and_intros)<;>try exact sd))
  refine XK.callG [0] hpr ok42 (hhp_one rfl) (hbT ()) (fun d h' ⟨_,_,_,_,_,_,e⟩=>by subst e;simp) ?_
  rintro _ _ ⟨p,rfl,hp,n2,hn3,hn4,rfl⟩ _
  have hln:=prog_len hp.ok
  have hcp:=compProgSO p (by omega) (by omega) (by have:=(body_of hp.ok).2;omega)
  obtain ⟨vs2,ar2,bd⟩:=p
  simp only at hln
  iterate 2 ((try (refine drvZ Tryz.func15 ?_;simp only [go_sem,rdr,renCs_in,renCs_I]));((with_reducible and_intros)<;>try exact sd))
  refine XK.callG [] hcp ok41 (fun i' x h=>by simp at h) (hbT ()) (fun d h' e=>by rcases e with ⟨_,_,e,_⟩ | ⟨_,e⟩<;>subst e<;>simp) ?_
  rintro _ _ (⟨l2,rfl,rfl,g1,g2,g3,g4⟩ | ⟨rfl,rfl⟩) _
  case' inl =>
   iterate 5 ((try (refine drvZ Tryz.func15 ?_;simp only [go_sem,rdr,renCs_in,renCs_I]));((with_reducible and_intros)<;>try exact sd))
   generalize vs2=V at *
   generalize ar2=A at *
   generalize l2=Q at *
   generalize n2=N at *
   have w:V.length≤13∧A.length≤2∧Q.length≤400∧n≤N∧N≤n+2100000:=by omega
   clear hco
   refine Go.loopQ (fun x : Nat × Nat × List In => [(0, .c (.ptr 0 0)), (2, .c (.ptr 1 0)), (3, .c (.ptr 193 0)), (6, DI .i64 (Q.length : Nat)), (7, DI .i64 (x.1 : Nat))])
    (fun x=>[(0,some (rdr bs x.2.1)),(1,some [.v (.slice none 0 0),.v (.slice none 0 0),.v (.slice none 0 0)]),(193,some [isI V,isI A,.msl 700 5 0 Q.length]),(700,some (inC x.2.2))])
    4096 (fun x=>x.2.2.length=Q.length∧N≤x.2.1∧x.2.1≤N+2 * x.1∧(x.1=0∨(x.1+1≤Q.length∧Q.length≤40))) (fun x=>Q.length - x.1) ?_ (0,N,Q) (fun j=>if j=700 then some 641 else some j) [] _ ⟨rfl,Nat.le_refl _,Nat.le_refl _,.inl rfl⟩ ?_
   case' refine_2 =>
    simp only [go_sem,TmOK,DM,DMs,CM,CMs,forall_eq,exists_eq_left,Mq,HpOK,LowOK,rdr]
    all_goals simp [CMs,kf,CMs_in]
  case' inr =>
   iterate 5 ((try (refine drvZ Tryz.func15 ?_;simp only [go_sem,rdr,renCs_in,renCs_I,cdC]));((with_reducible and_intros)<;>try exact sd))
   generalize vs=V at *
   generalize ar=A at *
   generalize l=Q at *
   generalize n2=N at *
   have w:V.length≤13∧A.length≤2∧Q.length≤400∧n≤N∧N≤n+2100000:=by omega
   clear hco
   refine Go.loopQ (fun x : Nat × Nat × List In => [(0, .c (.ptr 0 0)), (2, .c (.ptr 1 0)), (3, .c (.ptr 193 0)), (6, DI .i64 (Q.length : Nat)), (7, DI .i64 (x.1 : Nat))])
    (fun x=>[(0,some (rdr bs x.2.1)),(1,some [.v (.slice none 0 0),.v (.slice none 0 0),.v (.slice none 0 0)]),(193,some [isI V,isI A,.msl 700 5 0 Q.length]),(700,some (inC x.2.2))])
    4096 (fun x=>x.2.2.length=Q.length∧N≤x.2.1∧x.2.1≤N+2 * x.1∧(x.1=0∨(x.1+1≤Q.length∧Q.length≤40))) (fun x=>Q.length - x.1) ?_ (0,N,Q) (fun j=>if j=700 then some 129 else some j) [] _ ⟨rfl,Nat.le_refl _,Nat.le_refl _,.inl rfl⟩ ?_
   case' refine_2 =>
    simp only [go_sem,TmOK,DM,DMs,CM,CMs,forall_eq,exists_eq_left,Mq,HpOK,LowOK,rdr]
    all_goals simp [CMs,kf,CMs_in]
 case' inr =>
  have e0:(v == 0)=false:=by simp [hv0]
  iterate 5 ((try (refine drvZ Tryz.func15 ?_;simp only [go_sem,rdr,renCs_in,e0]));((with_reducible and_intros)<;>try exact sd))
  obtain ⟨n2,hn3⟩:∃ n2,n2=n1+1:=⟨_,rfl⟩
  generalize vs=V at *
  generalize ar=A at *
  generalize l=Q at *
  generalize n2=N at *
  have w:V.length≤13∧A.length≤2∧Q.length≤400∧n≤N∧N≤n+2100000:=by omega
  clear hco
  refine Go.loopQ (fun x : Nat × Nat × List In => [(0, .c (.ptr 0 0)), (2, .c (.ptr 1 0)), (3, .c (.ptr 193 0)), (6, DI .i64 (Q.length : Nat)), (7, DI .i64 (x.1 : Nat))])
   (fun x=>[(0,some (rdr bs x.2.1)),(1,some [.v (.slice none 0 0),.v (.slice none 0 0),.v (.slice none 0 0)]),(193,some [isI V,isI A,.msl 700 5 0 Q.length]),(700,some (inC x.2.2))])
   4096 (fun x=>x.2.2.length=Q.length∧N≤x.2.1∧x.2.1≤N+2 * x.1∧(x.1=0∨(x.1+1≤Q.length∧Q.length≤40))) (fun x=>Q.length - x.1) ?_ (0,n1+1,Q) (fun j=>if j=700 then some 129 else some j) [] _ ⟨rfl,by simp only;omega,by simp only;omega,.inl rfl⟩ ?_
  case' refine_2 =>
   simp only [go_sem,TmOK,DM,DMs,CM,CMs,forall_eq,exists_eq_left,Mq,HpOK,LowOK,rdr]
   all_goals simp [CMs,kf,CMs_in]
 all_goals
  skip
  rintro ⟨i,pos,ll⟩ ⟨hi1,hi2,hi3,hi4⟩ again
  simp only at hi1 hi2 hi3 hi4 again ⊢
  have hil:=inC_len ll
  by_cases hc:i+1<Q.length∧Q.length≤40
  ·have hz1:((i:Int)+1<(Q.length:Int))=True:=eq_true (by omega)
   have hz2:((Q.length:Int)≤40)=True:=eq_true (by omega)
   have hz3:i<Q.length:=by omega
   obtain ⟨xi,hxi⟩:∃ x,ll[i]? = some x:=⟨ll[i]'(by omega),by simp⟩
   have hat:=inC_at hxi
   have hxx:=hxi
   obtain ⟨op,xa,xb,xc,xd⟩:=xi
   simp only at hat
   refine drvL Tryz.func15 ?_
   simp only [go_sem,rdr,hz1,hz2,hat,hz3]
   by_cases ho1:op=10
   ·subst ho1
    iterate 6 ((try (refine drvZ Tryz.func15 ?_;simp only [go_sem,rdr,hz1,hz2,hat,hz3]));((with_reducible and_intros)<;>try exact sd);(try first | refine XK.gs (DB false) ?_))
    refine again (i+1,pos,ll) some [] _ ⟨hi1,by simp only;omega,by simp only;omega,.inr (by simp only;omega)⟩ (by simp only;omega) ?_
    simp only [go_sem,TmOK,DM,DMs,CM,CMs,forall_eq,exists_eq_left,Mq,HpOK,LowOK,rdr]
    all_goals first | (simp [CMs_in];done) | (simp [CMs_in];omega)
   have b1:(op != 10)=true:=by simp [ho1]
   by_cases ho2:op=1
   ·subst ho2
    iterate 6 ((try (refine drvZ Tryz.func15 ?_;simp only [go_sem,rdr,hz1,hz2,hat,hz3]));((with_reducible and_intros)<;>try exact sd);(try first | refine XK.gs (DB false) ?_))
    refine again (i+1,pos,ll) some [] _ ⟨hi1,by simp only;omega,by simp only;omega,.inr (by simp only;omega)⟩ (by simp only;omega) ?_
    simp only [go_sem,TmOK,DM,DMs,CM,CMs,forall_eq,exists_eq_left,Mq,HpOK,LowOK,rdr]
    all_goals first | (simp [CMs_in];done) | (simp [CMs_in];omega)
   have b2:(op != 1)=true:=by simp [ho2]
   iterate 4 ((try (refine drvZ Tryz.func15 ?_;simp only [go_sem,rdr,hz1,hz2,hat,hz3,b1,b2]));((with_reducible and_intros)<;>try exact sd))
   refine XK.callT 16 true [0] (pick bs pos 4 hb hl (by omega) (by simp only [InK];omega)) ok16 (hhp_one rfl) (hbT ()) (fun d h' ⟨v,_,_,e⟩=>by subst e;simp) ?_
   rintro _ _ ⟨v,rfl,hv,rfl⟩ _
   clear hv
   by_cases hv0:v=0
   ·subst hv0
    obtain ⟨M,hM⟩:∃ M,Q.length=i+1+M:=⟨Q.length - i - 1,by omega⟩
    have hk:(Q.length:Int) - (i:Int) - 1=(M:Int):=by omega
    iterate 4 ((try (refine drvZ Tryz.func15 ?_;simp only [go_sem,rdr,hz1,hz2,hz3,hk]));((with_reducible and_intros)<;>try exact sd))
    refine XK.callG [0] (pick bs (pos+1) M hb hl (by omega) (by simp only [InK];omega)) ok16 (hhp_one rfl) (hbT ()) (fun d h' ⟨v,_,_,e⟩=>by subst e;simp) ?_ (fun _=>⟨by kernel_rfl,_,_,⟨0,rfl,by omega,rfl⟩,by simp⟩)
    rintro _ _ ⟨q,rfl,hq,rfl⟩ _
    have hq2:0≤q∧q<M:=by omega
    have hput:=inC_put hxx ⟨8,(i:Int)+1+q,0,0,0⟩
    simp only [putCells,inX] at hput
    iterate 4 ((try (refine drvZ Tryz.func15 ?_;simp only [go_sem,rdr,hz3,hput]));((with_reducible and_intros)<;>try exact sd))
    refine again (i+1,pos+2,ll.set i ⟨8,(i:Int)+1+q,0,0,0⟩) some [] _ ⟨by simp only [List.length_set];exact hi1,by simp only;omega,by simp only;omega,.inr (by simp only;omega)⟩ (by simp only;omega) ?_
    simp only [go_sem,TmOK,DM,DMs,CM,CMs,forall_eq,exists_eq_left,Mq,HpOK,LowOK,rdr,hput]
    all_goals first | (simp [CMs_in];done) | (simp [CMs_in];omega)
   ·have e0:(v == 0)=false:=by simp [hv0]
    iterate 4 ((try (refine drvZ Tryz.func15 ?_;simp only [go_sem,rdr,hz1,hz2,hz3,e0]));((with_reducible and_intros)<;>try exact sd))
    refine again (i+1,pos+1,ll) some [] _ ⟨hi1,by simp only;omega,by simp only;omega,.inr (by simp only;omega)⟩ (by simp only;omega) ?_
    simp only [go_sem,TmOK,DM,DMs,CM,CMs,forall_eq,exists_eq_left,Mq,HpOK,LowOK,rdr]
    all_goals first | (simp [CMs_in];done) | (simp [CMs_in];omega)
  ·have hx:¬ (Q.length:Int)≤40∨¬ (i:Int)+1<(Q.length:Int):=by omega
   clear again
   have fin:∀ (hp:Hp),hp 0=some (some (rdr bs pos))→hp 700=some (some (inC ll))→RetOb 1 R (.agg [isI V,isI A,.msl 700 5 0 Q.length]) hp:=fun hp f1 f2 =>
    RetOb.cdF (by rw [← hR];exact ⟨⟨V,A,ll⟩,rfl,by simp only;omega,by simp only;omega,by simp only;omega,pos,by omega,by omega,rfl⟩) (rdr_kf bs pos) f1 f2 hi1.symm (by decide)
   by_cases hy:(i:Int)+1<(Q.length:Int)
   ·have hz1:((i:Int)+1<(Q.length:Int))=True:=eq_true hy
    have hz2:((Q.length:Int)≤40)=False:=eq_false (by omega)
    first | (exfalso;omega) | (refine drvL Tryz.func15 ?_;simp only [go_sem,rdr,hz1,hz2];(iterate 4 ((try (refine drvZ Tryz.func15 ?_;simp only [go_sem,rdr,hz1,hz2]));((with_reducible and_intros)<;>try exact sd)));all_goals exact fin _ rfl rfl)
   ·have hz1:((i:Int)+1<(Q.length:Int))=False:=eq_false hy
    refine drvL Tryz.func15 ?_
    simp only [go_sem,rdr,hz1]
    iterate 4 ((try (refine drvZ Tryz.func15 ?_;simp only [go_sem,rdr,hz1]));((with_reducible and_intros)<;>try exact sd);(try first | refine XK.gs (DB false) ?_))
    all_goals exact fin _ rfl rfl
open CtL (In Cd)
theorem memG_some (p:Pg):∃ m:Mm,MemG p m:=⟨⟨List.replicate p.vars.length 0,List.replicate p.arrays.length (List.replicate 4 0)⟩,by simp,by simp,fun x h=>by rw [List.eq_of_mem_replicate h];omega,fun a h=>by
 rw [List.eq_of_mem_replicate h]
 exact ⟨by simp,fun x h=>by rw [List.eq_of_mem_replicate h];omega⟩⟩
end Go.Proofs.YtoakidkcppinpaaGreat.CtD
namespace Go.Proofs.YtoakidkcppinpaaGreat.CtR
open Go Go.CT CtF
variable [Yn]
theorem and1_sec (a:Nat) (ha:a≤3):(((a &&& 1:Nat):Int) != 0)=secL a:=by
 obtain rfl | rfl | rfl | rfl:a=0∨a=1∨a=2∨a=3:=by omega
 all_goals decide
theorem l3Part (p : Pg) (m : Mm) (hv : m.vals.length = p.vars.length) (ha : m.arrays.length = p.arrays.length) (hv1 : p.vars.length ≤ 1000) (ha1 : p.arrays.length ≤ 2) (h4 : ∀ a ∈ m.arrays, a.length = 4) (hl1 : lab3 p.vars) (hl2 : lab3 p.arrays) :
 DC Tryz.prog 28 [.agg p.cells,.agg m.cells,DI .i64 1] [] (fun r h=>r = .agg (clrM secQ p.vars p.arrays m).cells∧h=[]):=by
 have hmx:=mx_eq
 have hown:=l3Copy m (by omega) (by omega) h4
 obtain ⟨vs,ar,bd⟩:=p
 simp only at hv ha hv1 ha1 hl1 hl2 ⊢
 have hlen:=clS_len secQ vs m.vals
 have hsucc:=fun i x h=>@clS_succ _ secQ vs m.vals i x h
 unfold memB at hown
 obtain ⟨va,arr⟩:=m
 simp only at hv ha h4 hlen hsucc
 generalize hR:(fun (r:D) (h:List (Option (List C)))=>r = .agg (clrM secQ vs ar ⟨va,arr⟩).cells∧h=[])=R
 refine dcZ Tryz.func28 ?_
 simp only [go_sem,Mm.cells]
 iterate 3 ((try (refine drvZ Tryz.func28 ?_;simp only [go_sem,Mm.cells]));((with_reducible and_intros)<;>try exact sd))
 refine XK.callG [] hown ok46 (fun i' x h=>by simp at h) (hbT ()) (fun d h' ⟨_,e⟩=>by subst e;simp) ?_
 rintro _ _ ⟨rfl,rfl⟩ _
 iterate 3 ((try (refine drvZ Tryz.func28 ?_;simp only [go_sem,renCs_I,renCs_hdr,renCs_b0,renCs_b1]));((with_reducible and_intros)<;>try exact sd))
 refine Go.loopQ (fun i : Nat => [(2, DI .i64 1), (3, .c (.ptr 0 0)), (6, .c (.ptr 128 0)), (7, .c (.ptr 320 0)), (8, DI .i64 i)])
  (fun i=>[(0,some (Pg.cells ⟨vs,ar,bd⟩)),(128,some [.v (.slice none 0 0),.v (.slice none 0 0)]),(256,some ((clS secQ vs va i).map I64)),(257,some (hdr 258 259 arr.length)),(258,some (blk0 arr)),(259,some (blk1 arr)),(320,some [.msl 256 1 0 va.length,.msl 257 1 0 arr.length])])
  4096 (fun i=>i≤vs.length) (fun i=>vs.length - i) ?_ 0 some [] _ (Nat.zero_le _) ?_
 ·intro i hi again
  have hli:=hlen i
  rcases Nat.lt_or_ge i vs.length with hlt | hge
  ·obtain ⟨x,hx⟩:∃ x,vs[i]? = some x:=⟨vs[i],by simp [hlt]⟩
   obtain ⟨a,ha3,rfl⟩:=labX hl1 (List.mem_of_getElem? hx)
   have hfx:=and1_sec a ha3
   have hs:=hsucc i _ hx
   have hsq:secQ (a:Int)=secL a:=by unfold secQ;rw [Int.toNat_natCast]
   rw [hsq] at hs
   have hltv:i<va.length:=by omega
   generalize clS secQ vs va i=S at *
   generalize secL a=b at *
   cases b with
   | true =>
    rw [if_pos rfl] at hs
    have hset:(S.map I64).set i (.v (.int .i64 0))=(S.set i 0).map I64:=by rw [List.map_set]
    refine drvL Tryz.func28 ?_
    simp only [go_sem,Mm.cells,hx,hlt,hltv,hfx]
    iterate 6 ((try (refine drvZ Tryz.func28 ?_;simp only [go_sem,Mm.cells,hx,hlt,hltv,hfx,hset]));((with_reducible and_intros)<;>try exact sd))
    refine again (i+1) some [] _ hlt (by omega) ?_
    simp only [go_sem,TmOK,DM,DMs,CM,CMs,forall_eq,exists_eq_left,Mq,HpOK,LowOK,hs]
    simp [CMs_hdr,CMs_b0,CMs_b1,upd]
    exact CMs.kf (by rw [hset];exact kf_I _)
   | false =>
    rw [if_neg (by simp)] at hs
    refine drvL Tryz.func28 ?_
    simp only [go_sem,Mm.cells,hx,hlt,hltv,hfx]
    iterate 6 ((try (refine drvZ Tryz.func28 ?_;simp only [go_sem,Mm.cells,hx,hlt,hltv,hfx]));((with_reducible and_intros)<;>try exact sd))
    refine again (i+1) some [] _ hlt (by omega) ?_
    simp only [go_sem,TmOK,DM,DMs,CM,CMs,forall_eq,exists_eq_left,Mq,HpOK,LowOK,hs]
    simp [CMs_I,CMs_hdr,CMs_b0,CMs_b1,upd]
  ·have hn:¬ i<va.length:=by omega
   obtain rfl:i=vs.length:=by omega
   generalize hS:clS secQ vs va vs.length=S at *
   refine drvL Tryz.func28 ?_
   simp only [go_sem,Mm.cells,hn]
   iterate 4 ((try (refine drvZ Tryz.func28 ?_;simp only [go_sem,Mm.cells,hn]));((with_reducible and_intros)<;>try exact sd))
   have fin:∀ (A:List (List Int)) (hp:Hp),A=clA secQ ar arr→A.length=arr.length→(∀ a ∈ A,a.length=4)→hp 256=some (some (S.map I64))→hp 257=some (some (hdr 258 259 arr.length))→hp 258=some (some (blk0 A))→hp 259=some (some (blk1 A))→RetOb 0 R (.agg [.msl 256 1 0 va.length,.msl 257 1 0 arr.length]) hp:=fun A hp e1 e2 e3 g1 g2 g3 g4 =>
    RetOb.mem0 (m:=⟨S,A⟩) (k2:=258) (k3:=259) (by simp only;omega) e3 (by subst hR;exact ⟨by rw [e1,← hS];rfl,rfl⟩) g1 (by rw [e2];exact g2) g3 g4 (by simp only;omega) (by simp only;omega) (by decide)
   clear hown hlen hsucc again hi hge
   rcases arr with _ | ⟨a,_ | ⟨a',_ | ⟨c,r⟩⟩⟩<;>rcases ar with _ | ⟨l,_ | ⟨l',_ | ⟨l3,r2⟩⟩⟩<;>simp only [List.length_cons,List.length_nil] at ha ha1<;>(try (exfalso;omega))
   ·refine Go.loop ?_
    refine drvL Tryz.func28 ?_
    simp only [go_sem,Mm.cells,Int.natCast_zero,Int.reduceLT]
    iterate 3 ((try (refine drvZ Tryz.func28 ?_;simp only [go_sem,Mm.cells,Int.natCast_zero,Int.reduceLT]));((with_reducible and_intros)<;>try exact sd))
    exact fin [] _ rfl rfl (by simp) rfl rfl rfl rfl
   ·obtain ⟨n,hn3,rfl⟩:=labX hl2 (x:=l) (by simp)
    have hfx:=and1_sec n hn3
    obtain ⟨x0,x1,x2,x3,rfl⟩:=len4 (h4 a (by simp))
    have hb0:blk0 [[x0,x1,x2,x3]]=[I64 x0,I64 x1,I64 x2,I64 x3]:=rfl
    have hb1:blk1 [[x0,x1,x2,x3]]=[]:=rfl
    have hcl:clA secQ [(n:Int)] [[x0,x1,x2,x3]]=[if secQ (n:Int) then [0,0,0,0] else [x0,x1,x2,x3]]:=rfl
    rw [hcl,show secQ (n:Int)=secL n from by unfold secQ;rw [Int.toNat_natCast]] at fin
    rw [hb0,hb1]
    generalize secL n=b at *
    cases b
    all_goals
     refine Go.loop ?_
     refine drvL Tryz.func28 ?_
     simp only [go_sem,Mm.cells,hdr,List.take,Int.natCast_zero,List.set_cons_zero,List.set_cons_succ,Int.reduceLT,hfx]
     iterate 6 ((try (refine drvZ Tryz.func28 ?_;simp only [go_sem,Mm.cells,hdr,List.take,Int.natCast_zero,List.set_cons_zero,List.set_cons_succ,Int.reduceLT,hfx]));((with_reducible and_intros)<;>try exact sd))
     refine Go.loop ?_
     refine drvL Tryz.func28 ?_
     simp only [go_sem,Mm.cells,hdr,List.take,Int.natCast_zero,List.set_cons_zero,List.set_cons_succ,Int.reduceLT,hfx]
     iterate 6 ((try (refine drvZ Tryz.func28 ?_;simp only [go_sem,Mm.cells,hdr,List.take,Int.natCast_zero,List.set_cons_zero,List.set_cons_succ,Int.reduceLT,hfx]));((with_reducible and_intros)<;>try exact sd))
     refine Go.inLoop ?_
     refine drvL Tryz.func28 ?_
     simp only [go_sem,Mm.cells,hdr,List.take,Int.natCast_zero,List.set_cons_zero,List.set_cons_succ,Int.reduceLT,hfx]
     iterate 6 ((try (refine drvZ Tryz.func28 ?_;simp only [go_sem,Mm.cells,hdr,List.take,Int.natCast_zero,List.set_cons_zero,List.set_cons_succ,Int.reduceLT,hfx]));((with_reducible and_intros)<;>try exact sd))
     refine Go.inLoop ?_
     refine drvL Tryz.func28 ?_
     simp only [go_sem,Mm.cells,hdr,List.take,Int.natCast_zero,List.set_cons_zero,List.set_cons_succ,Int.reduceLT,hfx]
     iterate 6 ((try (refine drvZ Tryz.func28 ?_;simp only [go_sem,Mm.cells,hdr,List.take,Int.natCast_zero,List.set_cons_zero,List.set_cons_succ,Int.reduceLT,hfx]));((with_reducible and_intros)<;>try exact sd))
     refine Go.inLoop ?_
     refine drvL Tryz.func28 ?_
     simp only [go_sem,Mm.cells,hdr,List.take,Int.natCast_zero,List.set_cons_zero,List.set_cons_succ,Int.reduceLT,hfx]
     iterate 6 ((try (refine drvZ Tryz.func28 ?_;simp only [go_sem,Mm.cells,hdr,List.take,Int.natCast_zero,List.set_cons_zero,List.set_cons_succ,Int.reduceLT,hfx]));((with_reducible and_intros)<;>try exact sd))
     refine Go.inLoop ?_
     refine drvL Tryz.func28 ?_
     simp only [go_sem,Mm.cells,hdr,List.take,Int.natCast_zero,List.set_cons_zero,List.set_cons_succ,Int.reduceLT,hfx]
     iterate 6 ((try (refine drvZ Tryz.func28 ?_;simp only [go_sem,Mm.cells,hdr,List.take,Int.natCast_zero,List.set_cons_zero,List.set_cons_succ,Int.reduceLT,hfx]));((with_reducible and_intros)<;>try exact sd))
     refine Go.inLoop ?_
     refine drvL Tryz.func28 ?_
     simp only [go_sem,Mm.cells,hdr,List.take,Int.natCast_zero,List.set_cons_zero,List.set_cons_succ,Int.reduceLT,hfx]
     iterate 6 ((try (refine drvZ Tryz.func28 ?_;simp only [go_sem,Mm.cells,hdr,List.take,Int.natCast_zero,List.set_cons_zero,List.set_cons_succ,Int.reduceLT,hfx]));((with_reducible and_intros)<;>try exact sd))
     exact fin _ _ rfl rfl (by simp) rfl rfl rfl rfl
   ·obtain ⟨n,hn3,rfl⟩:=labX hl2 (x:=l) (by simp)
    obtain ⟨n',hn4,rfl⟩:=labX hl2 (x:=l') (by simp)
    have hfx:=and1_sec n hn3
    have hfx2:=and1_sec n' hn4
    obtain ⟨x0,x1,x2,x3,rfl⟩:=len4 (h4 a (by simp))
    obtain ⟨y0,y1,y2,y3,rfl⟩:=len4 (h4 a' (by simp))
    have hb0:blk0 [[x0,x1,x2,x3],[y0,y1,y2,y3]]=[I64 x0,I64 x1,I64 x2,I64 x3]:=rfl
    have hb1:blk1 [[x0,x1,x2,x3],[y0,y1,y2,y3]]=[I64 y0,I64 y1,I64 y2,I64 y3]:=rfl
    have hcl:clA secQ [(n:Int),(n':Int)] [[x0,x1,x2,x3],[y0,y1,y2,y3]]=[if secQ (n:Int) then [0,0,0,0] else [x0,x1,x2,x3],if secQ (n':Int) then [0,0,0,0] else [y0,y1,y2,y3]]:=rfl
    rw [hcl,show secQ (n:Int)=secL n from by unfold secQ;rw [Int.toNat_natCast],show secQ (n':Int)=secL n' from by unfold secQ;rw [Int.toNat_natCast]] at fin
    rw [hb0,hb1]
    generalize secL n=b at *
    generalize secL n'=b' at *
    cases b<;>cases b'
    all_goals
     refine Go.loop ?_
     refine drvL Tryz.func28 ?_
     simp only [go_sem,Mm.cells,hdr,List.take,Int.natCast_zero,List.set_cons_zero,List.set_cons_succ,Int.reduceLT,hfx,hfx2]
     iterate 6 ((try (refine drvZ Tryz.func28 ?_;simp only [go_sem,Mm.cells,hdr,List.take,Int.natCast_zero,List.set_cons_zero,List.set_cons_succ,Int.reduceLT,hfx,hfx2]));((with_reducible and_intros)<;>try exact sd))
     refine Go.loop ?_
     refine drvL Tryz.func28 ?_
     simp only [go_sem,Mm.cells,hdr,List.take,Int.natCast_zero,List.set_cons_zero,List.set_cons_succ,Int.reduceLT,hfx,hfx2]
     iterate 6 ((try (refine drvZ Tryz.func28 ?_;simp only [go_sem,Mm.cells,hdr,List.take,Int.natCast_zero,List.set_cons_zero,List.set_cons_succ,Int.reduceLT,hfx,hfx2]));((with_reducible and_intros)<;>try exact sd))
     refine Go.inLoop ?_
     refine drvL Tryz.func28 ?_
     simp only [go_sem,Mm.cells,hdr,List.take,Int.natCast_zero,List.set_cons_zero,List.set_cons_succ,Int.reduceLT,hfx,hfx2]
     iterate 6 ((try (refine drvZ Tryz.func28 ?_;simp only [go_sem,Mm.cells,hdr,List.take,Int.natCast_zero,List.set_cons_zero,List.set_cons_succ,Int.reduceLT,hfx,hfx2]));((with_reducible and_intros)<;>try exact sd))
     refine Go.inLoop ?_
     refine drvL Tryz.func28 ?_
     simp only [go_sem,Mm.cells,hdr,List.take,Int.natCast_zero,List.set_cons_zero,List.set_cons_succ,Int.reduceLT,hfx,hfx2]
     iterate 6 ((try (refine drvZ Tryz.func28 ?_;simp only [go_sem,Mm.cells,hdr,List.take,Int.natCast_zero,List.set_cons_zero,List.set_cons_succ,Int.reduceLT,hfx,hfx2]));((with_reducible and_intros)<;>try exact sd))
     refine Go.inLoop ?_
     refine drvL Tryz.func28 ?_
     simp only [go_sem,Mm.cells,hdr,List.take,Int.natCast_zero,List.set_cons_zero,List.set_cons_succ,Int.reduceLT,hfx,hfx2]
     iterate 6 ((try (refine drvZ Tryz.func28 ?_;simp only [go_sem,Mm.cells,hdr,List.take,Int.natCast_zero,List.set_cons_zero,List.set_cons_succ,Int.reduceLT,hfx,hfx2]));((with_reducible and_intros)<;>try exact sd))
     refine Go.inLoop ?_
     refine drvL Tryz.func28 ?_
     simp only [go_sem,Mm.cells,hdr,List.take,Int.natCast_zero,List.set_cons_zero,List.set_cons_succ,Int.reduceLT,hfx,hfx2]
     iterate 6 ((try (refine drvZ Tryz.func28 ?_;simp only [go_sem,Mm.cells,hdr,List.take,Int.natCast_zero,List.set_cons_zero,List.set_cons_succ,Int.reduceLT,hfx,hfx2]));((with_reducible and_intros)<;>try exact sd))
     refine Go.inLoop ?_
     refine drvL Tryz.func28 ?_
     simp only [go_sem,Mm.cells,hdr,List.take,Int.natCast_zero,List.set_cons_zero,List.set_cons_succ,Int.reduceLT,hfx,hfx2]
     iterate 6 ((try (refine drvZ Tryz.func28 ?_;simp only [go_sem,Mm.cells,hdr,List.take,Int.natCast_zero,List.set_cons_zero,List.set_cons_succ,Int.reduceLT,hfx,hfx2]));((with_reducible and_intros)<;>try exact sd))
     refine Go.loop ?_
     refine drvL Tryz.func28 ?_
     simp only [go_sem,Mm.cells,hdr,List.take,Int.natCast_zero,List.set_cons_zero,List.set_cons_succ,Int.reduceLT,hfx,hfx2]
     iterate 6 ((try (refine drvZ Tryz.func28 ?_;simp only [go_sem,Mm.cells,hdr,List.take,Int.natCast_zero,List.set_cons_zero,List.set_cons_succ,Int.reduceLT,hfx,hfx2]));((with_reducible and_intros)<;>try exact sd))
     refine Go.inLoop ?_
     refine drvL Tryz.func28 ?_
     simp only [go_sem,Mm.cells,hdr,List.take,Int.natCast_zero,List.set_cons_zero,List.set_cons_succ,Int.reduceLT,hfx,hfx2]
     iterate 6 ((try (refine drvZ Tryz.func28 ?_;simp only [go_sem,Mm.cells,hdr,List.take,Int.natCast_zero,List.set_cons_zero,List.set_cons_succ,Int.reduceLT,hfx,hfx2]));((with_reducible and_intros)<;>try exact sd))
     refine Go.inLoop ?_
     refine drvL Tryz.func28 ?_
     simp only [go_sem,Mm.cells,hdr,List.take,Int.natCast_zero,List.set_cons_zero,List.set_cons_succ,Int.reduceLT,hfx,hfx2]
     iterate 6 ((try (refine drvZ Tryz.func28 ?_;simp only [go_sem,Mm.cells,hdr,List.take,Int.natCast_zero,List.set_cons_zero,List.set_cons_succ,Int.reduceLT,hfx,hfx2]));((with_reducible and_intros)<;>try exact sd))
     refine Go.inLoop ?_
     refine drvL Tryz.func28 ?_
     simp only [go_sem,Mm.cells,hdr,List.take,Int.natCast_zero,List.set_cons_zero,List.set_cons_succ,Int.reduceLT,hfx,hfx2]
     iterate 6 ((try (refine drvZ Tryz.func28 ?_;simp only [go_sem,Mm.cells,hdr,List.take,Int.natCast_zero,List.set_cons_zero,List.set_cons_succ,Int.reduceLT,hfx,hfx2]));((with_reducible and_intros)<;>try exact sd))
     refine Go.inLoop ?_
     refine drvL Tryz.func28 ?_
     simp only [go_sem,Mm.cells,hdr,List.take,Int.natCast_zero,List.set_cons_zero,List.set_cons_succ,Int.reduceLT,hfx,hfx2]
     iterate 6 ((try (refine drvZ Tryz.func28 ?_;simp only [go_sem,Mm.cells,hdr,List.take,Int.natCast_zero,List.set_cons_zero,List.set_cons_succ,Int.reduceLT,hfx,hfx2]));((with_reducible and_intros)<;>try exact sd))
     refine Go.inLoop ?_
     refine drvL Tryz.func28 ?_
     simp only [go_sem,Mm.cells,hdr,List.take,Int.natCast_zero,List.set_cons_zero,List.set_cons_succ,Int.reduceLT,hfx,hfx2]
     iterate 6 ((try (refine drvZ Tryz.func28 ?_;simp only [go_sem,Mm.cells,hdr,List.take,Int.natCast_zero,List.set_cons_zero,List.set_cons_succ,Int.reduceLT,hfx,hfx2]));((with_reducible and_intros)<;>try exact sd))
     exact fin _ _ rfl rfl (by simp) rfl rfl rfl rfl
 ·simp only [go_sem,TmOK,DM,DMs,CM,CMs,forall_eq,exists_eq_left,Mq,HpOK,LowOK]
  simp [CMs_I,clS,CMs_hdr,CMs_b0,CMs_b1,upd]
theorem memorySameS (a b:Mm) (h1:a.vals.length≤mx) (h2:a.arrays.length≤mx) (h3:∀ x ∈ a.arrays,x.length≤mx):DC Tryz.prog 27 [.agg a.cells,.agg b.cells] [] (fun r h=>r=DB (memSame a b)∧h=[]):=by
 have hmx:=mx_eq
 obtain ⟨va,arr⟩:=a
 obtain ⟨vb,brr⟩:=b
 simp only [memSame] at h1 h2 h3 ⊢
 have hl:=l2Ints va vb h1
 unfold ints at hl
 have ret:∀ (x:Bool) (hp:Hp),x=(decide (va=vb) && decide (arr=brr))→RetOb 0 (fun r h=>r=DB (decide (va=vb) && decide (arr=brr))∧h=[]) (DB x) hp:=fun x hp h=>RetOb.plain (d:=DB _) ⟨by rw [h],rfl⟩ rfl
 generalize hR:(fun (r:D) (h:List (Option (List C)))=>r=DB (decide (va=vb) && decide (arr=brr))∧h=[])=R at ret ⊢
 clear hR
 generalize decide (va=vb)=e at *
 cases e with
 | false =>
  refine dcZ Tryz.func27 ?_
  simp only [go_sem,Mm.cells]
  iterate 6 ((try (refine drvZ Tryz.func27 ?_;simp only [go_sem,Mm.cells]));((with_reducible and_intros)<;>try exact sd);(try first | refine XK.p hl ok52 ?_ | refine XK.gp hl ok52 ?_))
  exact ret _ _ rfl
 | true =>
  by_cases hlen:arr.length=brr.length
  ·have hb:((arr.length:Int) != brr.length)=false:=by simp [hlen]
   refine dcZ Tryz.func27 ?_
   simp only [go_sem,Mm.cells,hb]
   iterate 6 ((try (refine drvZ Tryz.func27 ?_;simp only [go_sem,Mm.cells,hb]));((with_reducible and_intros)<;>try exact sd);(try first | refine XK.p hl ok52 ?_ | refine XK.gp hl ok52 ?_))
   refine Go.loopQ (fun i:Nat=>[(2,.c (.ptr 0 0)),(3,.c (.ptr 64 0)),(5,DI .i64 i)]) (fun i=>[(0,some (Mm.cells ⟨va,arr⟩)),(64,some (Mm.cells ⟨vb,brr⟩))]) 4096 (fun i=>i≤arr.length∧decide (arr=brr)=decide (arr.drop i=brr.drop i)) (fun i=>arr.length - i) ?_ 0 some [] _ ⟨Nat.zero_le _,rfl⟩ ?_
   ·intro i hi again
    rcases Nat.lt_or_ge i arr.length with hlt | hge
    ·obtain ⟨x,hx⟩:∃ x,arr[i]? = some x:=⟨arr[i],by simp [hlt]⟩
     obtain ⟨y,hy⟩:∃ y,brr[i]? = some y:=⟨brr[i]'(by omega),by simp⟩
     have hI:=hi.2
     obtain ⟨_,ex⟩:=List.getElem?_eq_some_iff.1 hx
     obtain ⟨hyl,ey⟩:=List.getElem?_eq_some_iff.1 hy
     rw [List.drop_eq_getElem_cons hlt,List.drop_eq_getElem_cons hyl,ex,ey] at hI
     have hl2:=l2Ints x y (h3 x (List.mem_of_getElem? hx))
     unfold ints at hl2
     by_cases hxy:x=y
     ·subst hxy
      rw [decide_eq_true rfl] at hl2
      refine drvL Tryz.func27 ?_
      simp only [go_sem,Mm.cells,hx,hy,hlt]
      iterate 6 ((try (refine drvZ Tryz.func27 ?_;simp only [go_sem,Mm.cells,hx,hy,hlt]));((with_reducible and_intros)<;>try exact sd);(try first | refine XK.p hl2 ok52 ?_ | refine XK.gp hl2 ok52 ?_))
      refine again (i+1) some [] _ ⟨by omega,by rw [hI];simp⟩ (by omega) ?_
      simp only [go_sem,TmOK,DM,DMs,CM,CMs,forall_eq,exists_eq_left,Mq,HpOK,LowOK,Mm.cells]
      simp
     ·rw [decide_eq_false hxy] at hl2
      refine drvL Tryz.func27 ?_
      simp only [go_sem,Mm.cells,hx,hy,hlt]
      iterate 6 ((try (refine drvZ Tryz.func27 ?_;simp only [go_sem,Mm.cells,hx,hy,hlt]));((with_reducible and_intros)<;>try exact sd);(try first | refine XK.p hl2 ok52 ?_ | refine XK.gp hl2 ok52 ?_))
      exact ret _ _ (by rw [hI];simp [hxy])
    ·have hn:¬ i<arr.length:=by omega
     refine drvL Tryz.func27 ?_
     simp only [go_sem,Mm.cells,hn]
     iterate 3 ((try (refine drvZ Tryz.func27 ?_;simp only [go_sem,Mm.cells,hn]));((with_reducible and_intros)<;>try exact sd))
     exact ret _ _ (by rw [hi.2,List.drop_of_length_le hge,List.drop_of_length_le (by omega)];rfl)
   ·simp only [go_sem,TmOK,DM,DMs,CM,CMs,forall_eq,exists_eq_left,Mq,HpOK,LowOK,Mm.cells]
    simp
  ·have hb:((arr.length:Int) != brr.length)=true:=by simp;omega
   refine dcZ Tryz.func27 ?_
   simp only [go_sem,Mm.cells,hb]
   iterate 6 ((try (refine drvZ Tryz.func27 ?_;simp only [go_sem,Mm.cells,hb]));((with_reducible and_intros)<;>try exact sd);(try first | refine XK.p hl ok52 ?_ | refine XK.gp hl ok52 ?_))
   refine ret _ _ ?_
   have hne:¬ arr=brr:=fun h=>hlen (by rw [h])
   simp [hne]
end Go.Proofs.YtoakidkcppinpaaGreat.CtR
