/- Contracts of functions of the program, one behind the other, as plain data: what each call returns and which blocks it leaves. -/
import Derived.Test.YtoakidkcppinpaaGreatDFacts
import Derived.Test.YtoakidkcppinpaaGreatDAi
import Derived.Test.YtoakidkcppinpaaGreatDAl
import Derived.Test.YtoakidkcppinpaaGreatDAn
import Derived.Test.YtoakidkcppinpaaGreatDAo
import Derived.Test.YtoakidkcppinpaaGreatDAp
import Derived.Test.YtoakidkcppinpaaGreatDAq
import Derived.Test.YtoakidkcppinpaaGreatDAs
import Derived.Test.YtoakidkcppinpaaGreatDAt
import Derived.Test.YtoakidkcppinpaaGreatDAu
import Derived.Test.YtoakidkcppinpaaGreatDAw
import Derived.Test.YtoakidkcppinpaaGreatDAz
import Derived.Test.YtoakidkcppinpaaGreatDAx
import Derived.Test.YtoakidkcppinpaaGreatDAy
set_option linter.unusedVariables false
set_option linter.unusedSimpArgs false
set_option linter.unusedSectionVars false
set_option maxHeartbeats 16000000
set_option maxRecDepth 100000
namespace Go.Proofs.YtoakidkcppinpaaGreat.CtD
open Go Go.CT CtF CtR
variable [Yn]
structure LowB {α : Type} (bit : Int) (ls : List Int) (a a' : List α) : Prop where
 len:a'.length=a.length
 eq:∀ (j:Nat) (x:Int),ls[j]? = some x→andZ .i64 x bit=0→a[j]? = a'[j]?
theorem LowB.refl {α:Type} (bit:Int) (ls:List Int) (a:List α):LowB bit ls a a:=⟨rfl,fun _ _ _ _=>rfl⟩
theorem LowB.set {α:Type} {bit:Int} {ls:List Int} {a a':List α} (h:LowB bit ls a a') {i:Nat} {x:Int} (hx:ls[i]? = some x) (hb:¬ andZ .i64 x bit=0) (v:α):LowB bit ls a (a'.set i v) :=
 ⟨by rw [List.length_set,h.len],fun j y hy hf=>by
  rw [List.getElem?_set]
  by_cases e:i=j
  ·subst e;rw [hx] at hy;cases hy;exact absurd hf hb
  ·rw [if_neg e];exact h.eq j y hy hf⟩
def sgR (bit:Int) (p:Pg) (m:Mm) (bs:List Int) (n:Nat) (r:D) (h:List (Option (List C))):Prop:=∃ m':Mm,r = .agg m'.cells∧MemG p m'∧LowB bit p.vars m.vals m'.vals∧LowB bit p.arrays m.arrays m'.arrays∧rdL bs n 30 h
theorem bitG (x bit:Int):∃ b:Bool,decide (andZ .i64 x bit ≠ 0)=b∧((andZ .i64 x bit=0)=(b=false))∧((andZ .i64 x bit != 0)=b):=by
 refine ⟨_,rfl,?_,?_⟩
 ·by_cases h:andZ .i64 x bit=0<;>simp [h]
 ·by_cases h:andZ .i64 x bit=0<;>simp [h]
theorem secretsG (bs : List Int) (n : Nat) (p : Pg) (m : Mm) (hb : Fits .u8 bs) (hl : bs.length ≤ 2000) (hn : n ≤ 274877906944) (hm : MemG p m) (hpv : p.vars.length ≤ 13) (hpa : p.arrays.length ≤ 2) (bit : Int) :
 DC Tryz.prog 22 [.c (.ptr 0 0),.agg p.cells,.agg m.cells,DI .i64 bit] [some (rdr bs n)] (sgR bit p m bs n):=by
 have hmx:=mx_eq
 have hval:=fun n h=>l3Value bs n hb hl h
 have hcp:=l3Copy m (by have:=hm.nv;omega) (by have:=hm.na;omega) (fun a h=>(hm.arr a h).1)
 generalize hR:sgR bit p m bs n=R
 unfold memB at hcp
 have hnv:=hm.nv
 have hna:=hm.na
 have hnv12:=hpv
 have hna2:=hpa
 have hva:=hm.val
 have har:=hm.arr
 obtain ⟨vs,ar,bd⟩:=p
 obtain ⟨va,arr⟩:=m
 simp only at hnv hna hnv12 hna2 hva har
 refine dcZ Tryz.func22 ?_
 simp only [go_sem,Mm.cells,rdr]
 ((try (refine drvZ Tryz.func22 ?_;simp only [go_sem,Mm.cells,rdr]));((with_reducible and_intros)<;>try exact sd))
 refine XK.callG [] hcp ok46 (fun i' x h=>by simp at h) (hbT ()) (fun d h' ⟨_,e⟩=>by subst e;simp) ?_
 rintro _ _ ⟨rfl,rfl⟩ _
 iterate 3 ((try (refine drvZ Tryz.func22 ?_;simp only [go_sem,renCs_I,renCs_hdr,renCs_b0,renCs_b1,rdr]));((with_reducible and_intros)<;>try exact sd))
 refine Go.loopQ (fun x : Nat × Nat × List Int => [(0, .c (.ptr 0 0)), (3, DI .i64 bit), (5, .c (.ptr 1 0)), (8, .c (.ptr 129 0)), (9, .c (.ptr 321 0)), (10, DI .i64 x.1)])
  (fun x=>[(0,some (rdr bs x.2.1)),(1,some (Pg.cells ⟨vs,ar,bd⟩)),(129,some [.v (.slice none 0 0),.v (.slice none 0 0)]),(257,some (x.2.2.map I64)),(258,some (hdr 259 260 arr.length)),(259,some (blk0 arr)),(260,some (blk1 arr)),(321,some [.msl 257 1 0 va.length,.msl 258 1 0 arr.length])])
  4096 (fun x=>x.1≤vs.length∧n≤x.2.1∧x.2.1≤n+x.1∧(∀ y ∈ x.2.2,0≤y∧y≤255)∧LowB bit vs va x.2.2) (fun x=>vs.length - x.1) ?_ (0,n,va) some [] _ ⟨Nat.zero_le _,Nat.le_refl _,Nat.le_refl _,hva,.refl _ _ _⟩ ?_
 ·rintro ⟨i,pos,S⟩ ⟨hi1,hi2,hi3,hi4,hi5⟩ again
  simp only at hi1 hi2 hi3 hi4 hi5
  have hSl:=hi5.len
  rcases Nat.lt_or_ge i vs.length with hlt | hge
  ·obtain ⟨x,hx⟩:∃ x,vs[i]? = some x:=⟨vs[i],by simp [hlt]⟩
   have hlt2:i<va.length:=by omega
   obtain ⟨bb,hb1,hb2,hb3⟩:=bitG x bit
   cases bb with
   | false =>
    refine drvL Tryz.func22 ?_
    simp only [go_sem,rdr,hlt,hlt2]
    iterate 5 ((try (refine drvZ Tryz.func22 ?_;simp only [go_sem,rdr,hlt,hlt2,hx,hb2,hb3]));((with_reducible and_intros)<;>try exact sd))
    refine again (i+1,pos,S) some [] _ ⟨hlt,hi2,(show pos≤n+(i+1) by omega),hi4,hi5⟩ (show vs.length - (i+1)<vs.length - i by omega) ?_
    simp only [go_sem,TmOK,DM,DMs,CM,CMs,forall_eq,exists_eq_left,Mq,HpOK,LowOK,rdr]
    simp [CMs_I,CMs_hdr,CMs_b0,CMs_b1,upd]
   | true =>
    refine drvL Tryz.func22 ?_
    simp only [go_sem,rdr,hlt,hlt2]
    iterate 5 ((try (refine drvZ Tryz.func22 ?_;simp only [go_sem,rdr,hlt,hlt2,hx,hb2,hb3]));((with_reducible and_intros)<;>try exact sd))
    refine XK.callG [0] (hval pos (by omega)) ok45 (hhp_one rfl) (hbT ()) (fun d h' ⟨_,_,_,_,_,_,e⟩=>by subst e;simp) ?_ (fun _=>⟨by kernel_rfl,_,_,⟨0,rfl,by omega,pos,by omega,by omega,rfl⟩,by simp⟩)
    rintro _ _ ⟨v,rfl,hv,pos',hp1,hp3,rfl⟩ _
    iterate 5 ((try (refine drvZ Tryz.func22 ?_;simp only [go_sem,rdr,hlt,hlt2]));((with_reducible and_intros)<;>try exact sd))
    refine again (i+1,pos',S.set i v) some [] _ ⟨hlt,(show n≤pos' by omega),(show pos'≤n+(i+1) by omega),rng_set hi4 hv,hi5.set hx (by simpa using hb1) v⟩ (show vs.length - (i+1)<vs.length - i by omega) ?_
    simp only [go_sem,TmOK,DM,DMs,CM,CMs,forall_eq,exists_eq_left,Mq,HpOK,LowOK,rdr]
    simp [CMs_I,CMs_hdr,CMs_b0,CMs_b1,upd]
    try exact CMs.kf (by rw [← List.map_set];exact kf_I _)
  ·have hn1:¬ i<va.length:=by omega
   have hn2:¬ i<vs.length:=by omega
   have z00:((0:Int)<0)=False:=eq_false (by omega)
   have z01:((0:Int)<1)=True:=eq_true (by omega)
   have z02:((0:Int)<2)=True:=eq_true (by omega)
   have z12:((1:Int)<2)=True:=eq_true (by omega)
   have z11:((1:Int)<1)=False:=eq_false (by omega)
   have z22:((2:Int)<2)=False:=eq_false (by omega)
   clear again
   have fin:∀ (A:List (List Int)) (ps:Nat) (hp:Hp),A.length=arr.length→pos≤ps→ps≤pos+8→LowB bit ar arr A→(∀ a ∈ A,a.length=4∧∀ y ∈ a,0≤y∧y≤255)→hp 0=some (some (rdr bs ps))→hp 257=some (some (S.map I64))→hp 258=some (some (hdr 259 260 arr.length))→hp 259=some (some (blk0 A))→hp 260=some (some (blk1 A)) →
    RetOb 1 R (.agg [.msl 257 1 0 va.length,.msl 258 1 0 arr.length]) hp:=fun A ps hp e1 e2 e3 e4 e5 g0 g1 g2 g3 g4 =>
    RetOb.memK (m:=⟨S,A⟩) (k2:=259) (k3:=260) (by simp only;omega) (by
     rw [← hR]
     exact ⟨⟨S,A⟩,rfl,⟨by simp only;omega,by simp only;omega,hi4,e5⟩,hi5,e4,ps,by omega,by omega,rfl⟩) (rdr_kf bs ps) g0 g1 (by rw [g2,← e1,hdr_hdA _ _ _ (by omega) (fun a h=>(e5 a h).1)]) g3 g4 (by simp only;omega) (by simp only;omega) (by decide)
   refine drvL Tryz.func22 ?_
   simp only [go_sem,rdr,hn1,hn2]
   iterate 3 ((try (refine drvZ Tryz.func22 ?_;simp only [go_sem,rdr,hn1,hn2]));((with_reducible and_intros)<;>try exact sd))
   rcases arr with _ | ⟨a,_ | ⟨b,_ | ⟨c,r⟩⟩⟩<;>rcases ar with _ | ⟨l,_ | ⟨l',_ | ⟨l3,r2⟩⟩⟩<;>simp only [List.length_cons,List.length_nil] at hna hna2<;>(try (exfalso;omega))
   ·refine Go.loop ?_
    refine drvL Tryz.func22 ?_
    simp only [go_sem,rdr,List.getElem?_cons_zero,List.getElem?_cons_succ,Int.natCast_zero,z01,z02,z12,z11,z22,z00]
    iterate 3 ((try (refine drvZ Tryz.func22 ?_;simp only [go_sem,rdr,List.getElem?_cons_zero,List.getElem?_cons_succ,Int.natCast_zero,z01,z02,z12,z11,z22,z00]));((with_reducible and_intros)<;>try exact sd))
    exact fin [] pos _ rfl (by omega) (by omega) (.refl _ _ _) (by simp) rfl rfl rfl rfl rfl
   ·obtain ⟨T0,hT0⟩:∃ T0,T0=l:=⟨l,rfl⟩
    subst hT0
    have hT0x:([T0]:List Int)[0]? = some (T0:Int):=rfl
    have h4a:=har a (by simp)
    have hb0:blk0 [a]=a.map I64:=rfl
    have hb1:blk1 [a]=[]:=rfl
    have hh1:hdr 259 260 1=[.msl 259 1 0 4]:=rfl
    obtain ⟨pos0,hpos0⟩:∃ p,p=pos:=⟨pos,rfl⟩
    subst hpos0
    refine Go.loop ?_
    refine drvL Tryz.func22 ?_
    simp only [go_sem,rdr,hb0,hb1,hh1,List.getElem?_cons_zero,List.getElem?_cons_succ,Int.natCast_zero,z01,z02,z12,z11,z22,z00]
    iterate 3 ((try (refine drvZ Tryz.func22 ?_;simp only [go_sem,rdr,hb0,hb1,hh1,List.getElem?_cons_zero,List.getElem?_cons_succ,Int.natCast_zero,z01,z02,z12,z11,z22,z00]));((with_reducible and_intros)<;>try exact sd))
    refine Go.loopQ (fun x : Nat × Nat × List Int => [(0, .c (.ptr 0 0)), (3, DI .i64 bit), (5, .c (.ptr 1 0)), (8, .c (.ptr 129 0)), (9, .c (.ptr 321 0)), (11, DI .i64 0), (12, DI .i64 x.1)])
     (fun x=>[(0,some (rdr bs x.2.1)),(1,some (Pg.cells ⟨vs,[(T0:Int)],bd⟩)),(129,some [.v (.slice none 0 0),.v (.slice none 0 0)]),(257,some (S.map I64)),(258,some ([.msl 259 1 0 4])),(259,some (x.2.2.map I64)),(260,some ([])),(321,some [.msl 257 1 0 va.length,.msl 258 1 0 1])])
     8192 (fun x=>x.1≤4∧pos0≤x.2.1∧x.2.1≤pos0+x.1∧x.2.2.length=4∧(∀ y ∈ x.2.2,0≤y∧y≤255)∧(andZ .i64 T0 bit=0→x.2.2=a)) (fun x=>4 - x.1) ?_ (0,pos0,a) some [] _ ⟨Nat.zero_le _,Nat.le_refl _,Nat.le_refl _,h4a.1,h4a.2,fun _=>rfl⟩ ?_
    ·rintro ⟨k,ps,c⟩ ⟨hk1,hk2,hk3,hk4,hk5,hk6⟩ again
     simp only at hk1 hk2 hk3 hk4 hk5 hk6
     rcases Nat.lt_or_ge k 4 with hlt | hge
     ·have hz:((k:Int)<4)=True:=eq_true (by omega)
      obtain ⟨bb,hb1,hb2,hb3⟩:=bitG T0 bit
      cases bb with
      | false =>
       refine drvL Tryz.func22 ?_
       simp only [go_sem,rdr,hz,List.getElem?_cons_zero,List.getElem?_cons_succ,Int.natCast_zero,z01,z02,z12,z11,z22,z00]
       iterate 5 ((try (refine drvZ Tryz.func22 ?_;simp only [go_sem,rdr,hz,hT0x,hb2,hb3,List.getElem?_cons_zero,List.getElem?_cons_succ,Int.natCast_zero,z01,z02,z12,z11,z22,z00]));((with_reducible and_intros)<;>try exact sd))
       refine again (k+1,ps,c) some [] _ ⟨hlt,hk2,(show ps≤pos0+(k+1) by omega),hk4,hk5,hk6⟩ (show 4 - (k+1)<4 - k by omega) ?_
       simp only [go_sem,TmOK,DM,DMs,CM,CMs,forall_eq,exists_eq_left,Mq,HpOK,LowOK,rdr]
       simp [CMs_I,CMs_hdr,CMs_b0,CMs_b1,upd]
      | true =>
       refine drvL Tryz.func22 ?_
       simp only [go_sem,rdr,hz,List.getElem?_cons_zero,List.getElem?_cons_succ,Int.natCast_zero,z01,z02,z12,z11,z22,z00]
       iterate 5 ((try (refine drvZ Tryz.func22 ?_;simp only [go_sem,rdr,hz,hT0x,hb2,hb3,List.getElem?_cons_zero,List.getElem?_cons_succ,Int.natCast_zero,z01,z02,z12,z11,z22,z00]));((with_reducible and_intros)<;>try exact sd))
       refine XK.callG [0] (hval ps (by omega)) ok45 (hhp_one rfl) (hbT ()) (fun d h' ⟨_,_,_,_,_,_,e⟩=>by subst e;simp) ?_ (fun _=>⟨by kernel_rfl,_,_,⟨0,rfl,by omega,ps,by omega,by omega,rfl⟩,by simp⟩)
       rintro _ _ ⟨v,rfl,hv,ps',hp1,hp3,rfl⟩ _
       iterate 5 ((try (refine drvZ Tryz.func22 ?_;simp only [go_sem,rdr,hz,List.getElem?_cons_zero,List.getElem?_cons_succ,Int.natCast_zero,z01,z02,z12,z11,z22,z00,hk4]));((with_reducible and_intros)<;>try exact sd))
       refine again (k+1,ps',c.set k v) some [] _ ⟨hlt,(show pos0≤ps' by omega),(show ps'≤pos0+(k+1) by omega),by rw [List.length_set];exact hk4,rng_set hk5 hv,fun h=>by simp [h] at hb1⟩ (show 4 - (k+1)<4 - k by omega) ?_
       simp only [go_sem,TmOK,DM,DMs,CM,CMs,forall_eq,exists_eq_left,Mq,HpOK,LowOK,rdr]
       simp [CMs_I,CMs_hdr,CMs_b0,CMs_b1,upd]
       try exact CMs.kf (by rw [← List.map_set];exact kf_I _)
     ·have hz:((k:Int)<4)=False:=eq_false (by omega)
      clear again
      refine drvL Tryz.func22 ?_
      simp only [go_sem,rdr,hz,List.getElem?_cons_zero,List.getElem?_cons_succ,Int.natCast_zero,z01,z02,z12,z11,z22,z00]
      iterate 3 ((try (refine drvZ Tryz.func22 ?_;simp only [go_sem,rdr,hz,List.getElem?_cons_zero,List.getElem?_cons_succ,Int.natCast_zero,z01,z02,z12,z11,z22,z00]));((with_reducible and_intros)<;>try exact sd))
      refine Go.inLoop ?_
      refine drvL Tryz.func22 ?_
      simp only [go_sem,rdr,List.getElem?_cons_zero,List.getElem?_cons_succ,Int.natCast_zero,z01,z02,z12,z11,z22,z00]
      iterate 3 ((try (refine drvZ Tryz.func22 ?_;simp only [go_sem,rdr,List.getElem?_cons_zero,List.getElem?_cons_succ,Int.natCast_zero,z01,z02,z12,z11,z22,z00]));((with_reducible and_intros)<;>try exact sd))
      exact fin [c] ps _ (by simp) (by omega) (by omega) ⟨rfl,fun j x hj hf=>by
       match j,hj with
       | 0,hj=>simp only [List.getElem?_cons_zero,Option.some.injEq] at hj;subst hj;simp [hk6 (by simpa using hf)]
       | j+1,hj=>simp at hj⟩ (by simpa using ⟨hk4,hk5⟩) rfl rfl rfl rfl rfl
    ·simp only [go_sem,TmOK,DM,DMs,CM,CMs,forall_eq,exists_eq_left,Mq,HpOK,LowOK,rdr]
     simp [CMs_I,CMs_hdr,CMs_b0,CMs_b1,upd]
   ·obtain ⟨T0,hT0⟩:∃ T0,T0=l:=⟨l,rfl⟩
    subst hT0
    obtain ⟨T1,hT1⟩:∃ T1,T1=l':=⟨l',rfl⟩
    subst hT1
    have hT0x:([T0,T1]:List Int)[0]? = some (T0:Int):=rfl
    have hT1x:([T0,T1]:List Int)[1]? = some (T1:Int):=rfl
    have h4a:=har a (by simp)
    have h4b:=har b (by simp)
    have hb0:blk0 [a,b]=a.map I64:=rfl
    have hb1:blk1 [a,b]=b.map I64:=rfl
    have hh1:hdr 259 260 2=[.msl 259 1 0 4,.msl 260 1 0 4]:=rfl
    obtain ⟨pos0,hpos0⟩:∃ p,p=pos:=⟨pos,rfl⟩
    subst hpos0
    refine Go.loop ?_
    refine drvL Tryz.func22 ?_
    simp only [go_sem,rdr,hb0,hb1,hh1,List.getElem?_cons_zero,List.getElem?_cons_succ,Int.natCast_zero,z01,z02,z12,z11,z22,z00]
    iterate 3 ((try (refine drvZ Tryz.func22 ?_;simp only [go_sem,rdr,hb0,hb1,hh1,List.getElem?_cons_zero,List.getElem?_cons_succ,Int.natCast_zero,z01,z02,z12,z11,z22,z00]));((with_reducible and_intros)<;>try exact sd))
    refine Go.loopQ (fun x : Nat × Nat × List Int => [(0, .c (.ptr 0 0)), (3, DI .i64 bit), (5, .c (.ptr 1 0)), (8, .c (.ptr 129 0)), (9, .c (.ptr 321 0)), (11, DI .i64 0), (12, DI .i64 x.1)])
     (fun x=>[(0,some (rdr bs x.2.1)),(1,some (Pg.cells ⟨vs,[(T0:Int),(T1:Int)],bd⟩)),(129,some [.v (.slice none 0 0),.v (.slice none 0 0)]),(257,some (S.map I64)),(258,some ([.msl 259 1 0 4,.msl 260 1 0 4])),(259,some (x.2.2.map I64)),(260,some (b.map I64)),(321,some [.msl 257 1 0 va.length,.msl 258 1 0 2])])
     8192 (fun x=>x.1≤4∧pos0≤x.2.1∧x.2.1≤pos0+x.1∧x.2.2.length=4∧(∀ y ∈ x.2.2,0≤y∧y≤255)∧(andZ .i64 T0 bit=0→x.2.2=a)) (fun x=>4 - x.1) ?_ (0,pos0,a) some [] _ ⟨Nat.zero_le _,Nat.le_refl _,Nat.le_refl _,h4a.1,h4a.2,fun _=>rfl⟩ ?_
    ·rintro ⟨k,ps,c⟩ ⟨hk1,hk2,hk3,hk4,hk5,hk6⟩ again
     simp only at hk1 hk2 hk3 hk4 hk5 hk6
     rcases Nat.lt_or_ge k 4 with hlt | hge
     ·have hz:((k:Int)<4)=True:=eq_true (by omega)
      obtain ⟨bb,hb1,hb2,hb3⟩:=bitG T0 bit
      cases bb with
      | false =>
       refine drvL Tryz.func22 ?_
       simp only [go_sem,rdr,hz,List.getElem?_cons_zero,List.getElem?_cons_succ,Int.natCast_zero,z01,z02,z12,z11,z22,z00]
       iterate 5 ((try (refine drvZ Tryz.func22 ?_;simp only [go_sem,rdr,hz,hT0x,hb2,hb3,List.getElem?_cons_zero,List.getElem?_cons_succ,Int.natCast_zero,z01,z02,z12,z11,z22,z00]));((with_reducible and_intros)<;>try exact sd))
       refine again (k+1,ps,c) some [] _ ⟨hlt,hk2,(show ps≤pos0+(k+1) by omega),hk4,hk5,hk6⟩ (show 4 - (k+1)<4 - k by omega) ?_
       simp only [go_sem,TmOK,DM,DMs,CM,CMs,forall_eq,exists_eq_left,Mq,HpOK,LowOK,rdr]
       simp [CMs_I,CMs_hdr,CMs_b0,CMs_b1,upd]
      | true =>
       refine drvL Tryz.func22 ?_
       simp only [go_sem,rdr,hz,List.getElem?_cons_zero,List.getElem?_cons_succ,Int.natCast_zero,z01,z02,z12,z11,z22,z00]
       iterate 5 ((try (refine drvZ Tryz.func22 ?_;simp only [go_sem,rdr,hz,hT0x,hb2,hb3,List.getElem?_cons_zero,List.getElem?_cons_succ,Int.natCast_zero,z01,z02,z12,z11,z22,z00]));((with_reducible and_intros)<;>try exact sd))
       refine XK.callG [0] (hval ps (by omega)) ok45 (hhp_one rfl) (hbT ()) (fun d h' ⟨_,_,_,_,_,_,e⟩=>by subst e;simp) ?_ (fun _=>⟨by kernel_rfl,_,_,⟨0,rfl,by omega,ps,by omega,by omega,rfl⟩,by simp⟩)
       rintro _ _ ⟨v,rfl,hv,ps',hp1,hp3,rfl⟩ _
       iterate 5 ((try (refine drvZ Tryz.func22 ?_;simp only [go_sem,rdr,hz,List.getElem?_cons_zero,List.getElem?_cons_succ,Int.natCast_zero,z01,z02,z12,z11,z22,z00,hk4]));((with_reducible and_intros)<;>try exact sd))
       refine again (k+1,ps',c.set k v) some [] _ ⟨hlt,(show pos0≤ps' by omega),(show ps'≤pos0+(k+1) by omega),by rw [List.length_set];exact hk4,rng_set hk5 hv,fun h=>by simp [h] at hb1⟩ (show 4 - (k+1)<4 - k by omega) ?_
       simp only [go_sem,TmOK,DM,DMs,CM,CMs,forall_eq,exists_eq_left,Mq,HpOK,LowOK,rdr]
       simp [CMs_I,CMs_hdr,CMs_b0,CMs_b1,upd]
       try exact CMs.kf (by rw [← List.map_set];exact kf_I _)
     ·have hz:((k:Int)<4)=False:=eq_false (by omega)
      clear again
      refine drvL Tryz.func22 ?_
      simp only [go_sem,rdr,hz,List.getElem?_cons_zero,List.getElem?_cons_succ,Int.natCast_zero,z01,z02,z12,z11,z22,z00]
      iterate 3 ((try (refine drvZ Tryz.func22 ?_;simp only [go_sem,rdr,hz,List.getElem?_cons_zero,List.getElem?_cons_succ,Int.natCast_zero,z01,z02,z12,z11,z22,z00]));((with_reducible and_intros)<;>try exact sd))
      obtain ⟨A0,hA⟩:∃ A0,A0=c:=⟨c,rfl⟩
      rw [← hA] at hk4 hk5 hk6 ⊢
      obtain ⟨pos1,hps⟩:∃ p,p=ps:=⟨ps,rfl⟩
      rw [← hps] at hk2 hk3 ⊢
      have h4A:A0.length=4∧∀ y ∈ A0,0≤y∧y≤255:=⟨hk4,hk5⟩
      have hA0:=hk6
      have hq1:pos0≤pos1:=hk2
      have hq2:pos1≤pos0+4:=by omega
      clear hk1 hk2 hk3 hk4 hk5 hk6 hz hge hA hps
      refine Go.inLoop ?_
      refine drvL Tryz.func22 ?_
      simp only [go_sem,rdr,List.getElem?_cons_zero,List.getElem?_cons_succ,Int.natCast_zero,z01,z02,z12,z11,z22,z00]
      iterate 3 ((try (refine drvZ Tryz.func22 ?_;simp only [go_sem,rdr,List.getElem?_cons_zero,List.getElem?_cons_succ,Int.natCast_zero,z01,z02,z12,z11,z22,z00]));((with_reducible and_intros)<;>try exact sd))
      refine Go.loopQ (fun x : Nat × Nat × List Int => [(0, .c (.ptr 0 0)), (3, DI .i64 bit), (5, .c (.ptr 1 0)), (8, .c (.ptr 129 0)), (9, .c (.ptr 321 0)), (11, DI .i64 1), (12, DI .i64 x.1)])
       (fun x=>[(0,some (rdr bs x.2.1)),(1,some (Pg.cells ⟨vs,[(T0:Int),(T1:Int)],bd⟩)),(129,some [.v (.slice none 0 0),.v (.slice none 0 0)]),(257,some (S.map I64)),(258,some ([.msl 259 1 0 4,.msl 260 1 0 4])),(259,some (A0.map I64)),(260,some (x.2.2.map I64)),(321,some [.msl 257 1 0 va.length,.msl 258 1 0 2])])
       12288 (fun x=>x.1≤4∧pos1≤x.2.1∧x.2.1≤pos1+x.1∧x.2.2.length=4∧(∀ y ∈ x.2.2,0≤y∧y≤255)∧(andZ .i64 T1 bit=0→x.2.2=b)) (fun x=>4 - x.1) ?_ (0,pos1,b) some [] _ ⟨Nat.zero_le _,Nat.le_refl _,Nat.le_refl _,h4b.1,h4b.2,fun _=>rfl⟩ ?_
      ·rintro ⟨k,ps,c⟩ ⟨hk1,hk2,hk3,hk4,hk5,hk6⟩ again
       simp only at hk1 hk2 hk3 hk4 hk5 hk6
       rcases Nat.lt_or_ge k 4 with hlt | hge
       ·have hz:((k:Int)<4)=True:=eq_true (by omega)
        obtain ⟨bb,hb1,hb2,hb3⟩:=bitG T1 bit
        cases bb with
        | false =>
         refine drvL Tryz.func22 ?_
         simp only [go_sem,rdr,hz,List.getElem?_cons_zero,List.getElem?_cons_succ,Int.natCast_zero,z01,z02,z12,z11,z22,z00]
         iterate 5 ((try (refine drvZ Tryz.func22 ?_;simp only [go_sem,rdr,hz,hT1x,hb2,hb3,List.getElem?_cons_zero,List.getElem?_cons_succ,Int.natCast_zero,z01,z02,z12,z11,z22,z00]));((with_reducible and_intros)<;>try exact sd))
         refine again (k+1,ps,c) some [] _ ⟨hlt,hk2,(show ps≤pos1+(k+1) by omega),hk4,hk5,hk6⟩ (show 4 - (k+1)<4 - k by omega) ?_
         simp only [go_sem,TmOK,DM,DMs,CM,CMs,forall_eq,exists_eq_left,Mq,HpOK,LowOK,rdr]
         simp [CMs_I,CMs_hdr,CMs_b0,CMs_b1,upd]
        | true =>
         refine drvL Tryz.func22 ?_
         simp only [go_sem,rdr,hz,List.getElem?_cons_zero,List.getElem?_cons_succ,Int.natCast_zero,z01,z02,z12,z11,z22,z00]
         iterate 5 ((try (refine drvZ Tryz.func22 ?_;simp only [go_sem,rdr,hz,hT1x,hb2,hb3,List.getElem?_cons_zero,List.getElem?_cons_succ,Int.natCast_zero,z01,z02,z12,z11,z22,z00]));((with_reducible and_intros)<;>try exact sd))
         refine XK.callG [0] (hval ps (by omega)) ok45 (hhp_one rfl) (hbT ()) (fun d h' ⟨_,_,_,_,_,_,e⟩=>by subst e;simp) ?_ (fun _=>⟨by kernel_rfl,_,_,⟨0,rfl,by omega,ps,by omega,by omega,rfl⟩,by simp⟩)
         rintro _ _ ⟨v,rfl,hv,ps',hp1,hp3,rfl⟩ _
         iterate 5 ((try (refine drvZ Tryz.func22 ?_;simp only [go_sem,rdr,hz,List.getElem?_cons_zero,List.getElem?_cons_succ,Int.natCast_zero,z01,z02,z12,z11,z22,z00,hk4]));((with_reducible and_intros)<;>try exact sd))
         refine again (k+1,ps',c.set k v) some [] _ ⟨hlt,(show pos1≤ps' by omega),(show ps'≤pos1+(k+1) by omega),by rw [List.length_set];exact hk4,rng_set hk5 hv,fun h=>by simp [h] at hb1⟩ (show 4 - (k+1)<4 - k by omega) ?_
         simp only [go_sem,TmOK,DM,DMs,CM,CMs,forall_eq,exists_eq_left,Mq,HpOK,LowOK,rdr]
         simp [CMs_I,CMs_hdr,CMs_b0,CMs_b1,upd]
         try exact CMs.kf (by rw [← List.map_set];exact kf_I _)
       ·have hz:((k:Int)<4)=False:=eq_false (by omega)
        clear again
        refine drvL Tryz.func22 ?_
        simp only [go_sem,rdr,hz,List.getElem?_cons_zero,List.getElem?_cons_succ,Int.natCast_zero,z01,z02,z12,z11,z22,z00]
        iterate 3 ((try (refine drvZ Tryz.func22 ?_;simp only [go_sem,rdr,hz,List.getElem?_cons_zero,List.getElem?_cons_succ,Int.natCast_zero,z01,z02,z12,z11,z22,z00]));((with_reducible and_intros)<;>try exact sd))
        refine Go.inLoop ?_
        refine drvL Tryz.func22 ?_
        simp only [go_sem,rdr,List.getElem?_cons_zero,List.getElem?_cons_succ,Int.natCast_zero,z01,z02,z12,z11,z22,z00]
        iterate 3 ((try (refine drvZ Tryz.func22 ?_;simp only [go_sem,rdr,List.getElem?_cons_zero,List.getElem?_cons_succ,Int.natCast_zero,z01,z02,z12,z11,z22,z00]));((with_reducible and_intros)<;>try exact sd))
        exact fin [A0,c] ps _ rfl (by omega) (by omega) ⟨rfl,fun j x hj hf=>by
         match j,hj with
         | 0,hj=>simp only [List.getElem?_cons_zero,Option.some.injEq] at hj;subst hj;simp [hA0 (by simpa using hf)]
         | 1,hj=>simp only [List.getElem?_cons_zero,List.getElem?_cons_succ,Option.some.injEq] at hj;subst hj;simp [hk6 (by simpa using hf)]
         | j+2,hj=>simp at hj⟩ (by simp only [List.mem_cons,List.not_mem_nil,or_false,forall_eq_or_imp,forall_eq];exact ⟨h4A,hk4,hk5⟩) rfl rfl rfl rfl rfl
      ·simp only [go_sem,TmOK,DM,DMs,CM,CMs,forall_eq,exists_eq_left,Mq,HpOK,LowOK,rdr]
       simp [CMs_I,CMs_hdr,CMs_b0,CMs_b1,upd]
    ·simp only [go_sem,TmOK,DM,DMs,CM,CMs,forall_eq,exists_eq_left,Mq,HpOK,LowOK,rdr]
     simp [CMs_I,CMs_hdr,CMs_b0,CMs_b1,upd]
 ·simp only [go_sem,TmOK,DM,DMs,CM,CMs,forall_eq,exists_eq_left,Mq,HpOK,LowOK,rdr]
  simp [CMs_I,CMs_hdr,CMs_b0,CMs_b1,upd]
open CtL (In Cd kindsOf topOf fOK inOK endOK codeOK atC halt)
def slt (k:Nat):UInt8:=if k=1 then 114 else if k=2 then 99 else if k=3 then 118 else if k=4 then 97 else if k=5 then 111 else 116
def sls (op:Int):ByteArray:=⟨(((kindsOf op).filter (fun k => !(k == 0))).map slt).toArray⟩
theorem l6FieldsS (op:Int) (h:1≤op∧op≤13):DC Tryz.prog 91 [DI .i64 op] [] (fun r h=>r=DS (sls op)∧h=[]):=by
 have hmx:=mx_eq
 have key:op=1∨op=2∨op=3∨op=4∨op=5∨op=6∨op=7∨op=8∨op=9∨op=10∨op=11∨op=12∨op=13:=by omega
 rcases key with rfl | rfl | rfl | rfl | rfl | rfl | rfl | rfl | rfl | rfl | rfl | rfl | rfl
 all_goals
  refine dcZ Tryz.func91 ?_
  simp only [go_sem]
  iterate 4 ((try (refine drvZ Tryz.func91 ?_;simp only [go_sem,Int.reduceLE,Int.reduceSub,Int.reduceToNat]));((with_reducible and_intros)<;>try exact sd))
  exact RetOb.plain (d:=DS _) ⟨rfl,rfl⟩ rfl
theorem l6PartsS (x:In):DC Tryz.prog 102 [.agg (inX x)] [] (fun r h=>r = .c (isI [x.a,x.b,x.c,x.d])∧h=[]):=by
 have hmx:=mx_eq
 obtain ⟨op,a,b,c,d⟩:=x
 unfold inX
 refine dcZ Tryz.func102 ?_
 simp only [go_sem]
 iterate 3 ((try (refine drvZ Tryz.func102 ?_;simp only [go_sem]));((with_reducible and_intros)<;>try exact sd))
 refine RetOb.ofQ (fun _=>none) [640] (.c (isI [a,b,c,d])) [] ?_ ⟨rfl,rfl⟩ (by simp)
 simp [isI,enumL,DM,DMs,CM,CMs,HpOK,LowOK,hOf,upd,kf]
theorem l6RangeS (c : Cd) (h1 : c.vars.length ≤ mx) (h2 : c.arrays.length ≤ mx) (h3 : c.list.length ≤ mx) (k : Nat) (hk : 1 ≤ k ∧ k ≤ 6) (n : Int) :
 DC Tryz.prog 103 [.agg (cdC c),.c (.v (.int .u8 (slt k).toNat)),DI .i64 n] [] (fun r h=>r=DB (fOK c.vars.length c.arrays.length c.list.length k n)∧h=[]):=by
 have hmx:=mx_eq
 obtain ⟨vs,ar,ls⟩:=c
 simp only at h1 h2 h3
 have ret:∀ (b:Bool) (hp:Hp),b=fOK vs.length ar.length ls.length k n→RetOb 0 (fun r h=>r=DB (fOK vs.length ar.length ls.length k n)∧h=[]) (DB b) hp:=fun b hp h=>RetOb.plain (d:=DB _) ⟨by rw [h],rfl⟩ rfl
 generalize hR:(fun (r:D) (h:List (Option (List C)))=>r=DB (fOK vs.length ar.length ls.length k n)∧h=[])=R at ret ⊢
 clear hR
 have key:k=1∨k=2∨k=3∨k=4∨k=5∨k=6:=by omega
 unfold cdC
 rcases key with rfl | rfl | rfl | rfl | rfl | rfl
 ·rw [show (((slt 1).toNat:Nat):Int)=114 from rfl]
  refine dcZ Tryz.func103 ?_
  simp only [go_sem]
  iterate 10 ((try (refine drvZ Tryz.func103 ?_;simp only [go_sem,List.length_map]));((with_reducible and_intros)<;>try exact sd))
  refine ret _ _ ?_
  rw [Bool.eq_iff_iff];simp [fOK,topOf];omega
 ·rw [show (((slt 2).toNat:Nat):Int)=99 from rfl]
  refine dcZ Tryz.func103 ?_
  simp only [go_sem]
  iterate 10 ((try (refine drvZ Tryz.func103 ?_;simp only [go_sem,List.length_map]));((with_reducible and_intros)<;>try exact sd))
  refine ret _ _ ?_
  rw [Bool.eq_iff_iff];simp [fOK,topOf]
 ·rw [show (((slt 3).toNat:Nat):Int)=118 from rfl]
  refine dcZ Tryz.func103 ?_
  simp only [go_sem]
  iterate 10 ((try (refine drvZ Tryz.func103 ?_;simp only [go_sem,List.length_map]));((with_reducible and_intros)<;>try exact sd))
  refine ret _ _ ?_
  rw [Bool.eq_iff_iff];simp [fOK,topOf];omega
 ·rw [show (((slt 4).toNat:Nat):Int)=97 from rfl]
  refine dcZ Tryz.func103 ?_
  simp only [go_sem]
  iterate 10 ((try (refine drvZ Tryz.func103 ?_;simp only [go_sem,List.length_map]));((with_reducible and_intros)<;>try exact sd))
  refine ret _ _ ?_
  rw [Bool.eq_iff_iff];simp [fOK,topOf];omega
 ·rw [show (((slt 5).toNat:Nat):Int)=111 from rfl]
  refine dcZ Tryz.func103 ?_
  simp only [go_sem]
  iterate 10 ((try (refine drvZ Tryz.func103 ?_;simp only [go_sem,List.length_map]));((with_reducible and_intros)<;>try exact sd))
  refine ret _ _ ?_
  rw [Bool.eq_iff_iff];simp [fOK,topOf]
 ·rw [show (((slt 6).toNat:Nat):Int)=116 from rfl]
  refine dcZ Tryz.func103 ?_
  simp only [go_sem]
  iterate 10 ((try (refine drvZ Tryz.func103 ?_;simp only [go_sem,List.length_map]));((with_reducible and_intros)<;>try exact sd))
  refine ret _ _ ?_
  rw [Bool.eq_iff_iff];simp [fOK,topOf];omega
theorem sls_len (op:Int) (i:Nat) (h:i<4):(i<(sls op).size) ↔ (kindsOf op).getD i 0 ≠ 0:=by
 have hi:i=0∨i=1∨i=2∨i=3:=by omega
 unfold sls kindsOf
 repeat' split
 all_goals rcases hi with rfl | rfl | rfl | rfl<;>decide
theorem kinds_len (op:Int):(kindsOf op).length=4:=by
 unfold kindsOf
 repeat' split
 all_goals rfl
theorem filt_at : ∀ (l : List Nat) (i : Nat), (∀ j k : Nat, j < k → l.getD k 0 ≠ 0 → l.getD j 0 ≠ 0) → l.getD i 0 ≠ 0 → ((l.filter (fun k => !(k == 0))).map slt)[i]? = some (slt (l.getD i 0))
 | [],i,_,h=>by simp at h
 | a :: r,i,hp,h=>by
  have ha:a ≠ 0:=by
   match i,h with
   | 0,h=>simpa using h
   | i+1,h=>have:=hp 0 (i+1) (by omega) h;simpa using this
  have hf:(a :: r).filter (fun k => !(k == 0))=a :: r.filter (fun k => !(k == 0)):=by simp [ha]
  rw [hf]
  match i,h with
  | 0,h=>simp
  | i+1,h =>
   have ih:=filt_at r i (fun j k hj hk=>by have:=hp (j+1) (k+1) (by omega) (by simpa using hk);simpa using this) (by simpa using h)
   simpa using ih
theorem kinds_pre (op:Int):∀ j k:Nat,j<k→(kindsOf op).getD k 0 ≠ 0→(kindsOf op).getD j 0 ≠ 0:=fun j k hj hk=>by
 have h4:k<4:=by
  rcases Nat.lt_or_ge k 4 with h4 | h4
  ·exact h4
  ·exfalso
   apply hk
   rw [List.getD_eq_getElem?_getD,List.getElem?_eq_none (by rw [kinds_len];exact h4)];rfl
 have hk':k=1∨k=2∨k=3:=by omega
 have hj':j=0∨j=1∨j=2:=by omega
 revert hk
 unfold kindsOf
 repeat' split
 all_goals (rcases hk' with rfl | rfl | rfl<;>rcases hj' with rfl | rfl | rfl<;>first | omega | decide)
theorem sls_at (op:Int) (i:Nat) (h:(kindsOf op).getD i 0 ≠ 0):(sls op).data.toList.getD i 0=slt ((kindsOf op).getD i 0):=by
 have:=filt_at (kindsOf op) i (kinds_pre op) h
 unfold sls
 rw [List.getD_eq_getElem?_getD]
 simp only
 rw [this];rfl
open CtL (In Cd Mc stepM kindsOf topOf fOK inOK endOK codeOK)
def mcA (s:Mc):List C:=[I64 s.pc,.msl 0 1 0 14,.msl 1 1 0 s.mem.vals.length,.msl 2 1 0 s.mem.arrays.length]
def exB (s:Mc) (T:List Ev):List (Option (List C)):=[some (s.regs.map I64),some (s.mem.vals.map I64),some (hdr 3 4 s.mem.arrays.length),some (blk0 s.mem.arrays),some (blk1 s.mem.arrays),some (trC T)]
def exB' (s:Mc) (T:List Ev):List (Option (List C)):=[some (s.regs.map I64),some (s.mem.vals.map I64),some (hdr 3 4 s.mem.arrays.length),some (blk0 s.mem.arrays),some (blk1 s.mem.arrays),none,some (trC T)]
def exeR (x:In) (s:Mc) (T:List Ev) (r:D) (h:List (Option (List C))):Prop:=r = .tup [.agg (mcA (stepM x s).1),.c (.msl 6 2 0 (T++(stepM x s).2).length)]∧h=exB' (stepM x s).1 (T++(stepM x s).2)
theorem hdrg0 {k k' n:Nat} (h:0<n):(hdr k k' n)[0]? = some (.msl k 1 0 4):=by
 unfold hdr
 match n,h with
 | n+1,_=>rfl
theorem hdrg1 {k k' n:Nat} (h:1<n):(hdr k k' n)[1]? = some (.msl k' 1 0 4):=by
 unfold hdr
 match n,h with
 | n+2,_=>rfl
theorem hdrgL {k k' n:Nat} (h:n≤2):(hdr k k' n).length=n:=by
 unfold hdr
 match n,h with
 | 0,_=>rfl
 | 1,_=>rfl
 | 2,_=>rfl
def mvN (x:In) (rg:List Int) (pc:Nat):Int:=if x.op=8 then x.a else if (x.op=9∧nth rg x.a=0)∨(x.op=10∧nth rg x.a ≠ 0) then x.b else if x.op=13 then pc else pc+1
theorem l6MoveP (x : In) (rg : List Int) (pc : Nat) (hpc : pc ≤ 400) (hl : rg.length = 14) (ha : x.op ≠ 8 → 0 ≤ x.a ∧ x.a ≤ 13) :
 DC Tryz.prog 106 [.agg (inX x),.c (isI rg),DI .i64 pc] [] (fun r h=>r=DI .i64 (mvN x rg pc)∧h=[]):=by
 have hmx:=mx_eq
 have ret:∀ (v:Int) (hp:Hp),v=mvN x rg pc→RetOb 0 (fun r h=>r=DI .i64 (mvN x rg pc)∧h=[]) (DI .i64 v) hp:=fun v hp h=>RetOb.plain (d:=DI .i64 _) ⟨by rw [h],rfl⟩ rfl
 generalize hR:(fun (r:D) (h:List (Option (List C)))=>r=DI .i64 (mvN x rg pc)∧h=[])=R at ret ⊢
 clear hR
 obtain ⟨op,a,b,c,d⟩:=x
 simp only at ha
 unfold inX
 by_cases h8:op=8
 ·subst h8
  refine dcZ Tryz.func106 ?_
  simp only [go_sem]
  iterate 4 ((try (refine drvZ Tryz.func106 ?_;simp only [go_sem]));((with_reducible and_intros)<;>try exact sd))
  refine ret _ _ ?_
  simp [mvN]
 have e8:(op == 8)=false:=by simp [h8]
 have ha0:=ha h8
 have hx:(rg.map fun n=>[I64 n])[a.toNat]? = some [I64 (nth rg a)]:=by
  have h0:=(nth_mem (l:=rg) (i:=a) ha0.1 (by omega)).1
  rw [List.getElem?_map,h0];rfl
 by_cases h9:op=9
 ·subst h9
  by_cases hz:nth rg a=0
  ·refine dcZ Tryz.func106 ?_
   simp only [go_sem,hx,hl]
   iterate 4 ((try (refine drvZ Tryz.func106 ?_;simp only [go_sem,hx,hl,hz]));((with_reducible and_intros)<;>try exact sd))
   refine ret _ _ ?_
   simp [mvN,hz]
  ·have ez:(nth rg a == 0)=false:=by simp [hz]
   refine dcZ Tryz.func106 ?_
   simp only [go_sem,hx,hl]
   iterate 8 ((try (refine drvZ Tryz.func106 ?_;simp only [go_sem,hx,hl,ez]));((with_reducible and_intros)<;>try exact sd))
   refine ret _ _ ?_
   simp [mvN,hz]
 have e9:(op == 9)=false:=by simp [h9]
 by_cases h10:op=10
 ·subst h10
  by_cases hz:nth rg a=0
  ·have ez:(nth rg a != 0)=false:=by simp [hz]
   refine dcZ Tryz.func106 ?_
   simp only [go_sem,hx,hl]
   iterate 8 ((try (refine drvZ Tryz.func106 ?_;simp only [go_sem,hx,hl,hz,ez]));((with_reducible and_intros)<;>try exact sd))
   refine ret _ _ ?_
   simp [mvN,hz]
  ·have ez:(nth rg a != 0)=true:=by simp [hz]
   refine dcZ Tryz.func106 ?_
   simp only [go_sem,hx,hl]
   iterate 6 ((try (refine drvZ Tryz.func106 ?_;simp only [go_sem,hx,hl,ez]));((with_reducible and_intros)<;>try exact sd))
   refine ret _ _ ?_
   simp [mvN,hz]
 have e10:(op == 10)=false:=by simp [h10]
 by_cases h13:op=13
 ·subst h13
  refine dcZ Tryz.func106 ?_
  simp only [go_sem,hx,hl]
  iterate 12 ((try (refine drvZ Tryz.func106 ?_;simp only [go_sem,hx,hl]));((with_reducible and_intros)<;>try exact sd))
  refine ret _ _ ?_
  simp [mvN]
 have e13:(op == 13)=false:=by simp [h13]
 refine dcZ Tryz.func106 ?_
 simp only [go_sem,e8,e9,e10,e13,hx,hl]
 iterate 12 ((try (refine drvZ Tryz.func106 ?_;simp only [go_sem,e8,e9,e10,e13,hx,hl]));((with_reducible and_intros)<;>try exact sd))
 refine ret _ _ ?_
 simp [mvN,h8,h9,h10,h13]
theorem mvN_step (c:Cd) {x:In} {s:Mc} (hs:MOK c s) (h:inOK c.vars.length c.arrays.length c.list.length x=true):mvN x (stepM x s).1.regs s.pc=((stepM x s).1.pc:Int):=by
 have hl:=hs.len
 obtain ⟨op,a,b,cc,d⟩:=x
 simp only [inOK,Bool.and_eq_true,decide_eq_true_eq] at h
 obtain ⟨⟨⟨⟨⟨o1,o2⟩,q0⟩,q1⟩,q2⟩,q3⟩:=h
 have key:op=1∨op=2∨op=3∨op=4∨op=5∨op=6∨op=7∨op=8∨op=9∨op=10∨op=11∨op=12∨op=13:=by omega
 rcases key with rfl | rfl | rfl | rfl | rfl | rfl | rfl | rfl | rfl | rfl | rfl | rfl | rfl
 all_goals simp [fOK,topOf,kindsOf] at q0 q1 q2 q3
 all_goals simp [mvN,stepM]
 ·omega
 ·split
  ·omega
  ·rfl
 ·have hn:nth (s.regs.set a.toNat ((nth s.regs a+255) % 256)) a=(nth s.regs a+255) % 256:=by
   unfold nth
   rw [List.getD_eq_getElem?_getD,List.getElem?_set_self (by omega)];rfl
  rw [hn]
  split
  ·simp_all
  ·simp_all
   omega
theorem l6MoveO (c : Cd) (x : In) (s : Mc) (hc1 : c.list.length ≤ 400) (hs : MOK c s) (h : inOK c.vars.length c.arrays.length c.list.length x = true) (h14 : (stepM x s).1.regs.length = 14) :
 DC Tryz.prog 106 [.agg (inX x),.c (.msl 0 1 0 14),DI .i64 s.pc] [some ((stepM x s).1.regs.map I64)] (fun r h=>r=DI .i64 (stepM x s).1.pc∧h=[some ((stepM x s).1.regs.map I64)]):=by
 have hpc:=hs.pc
 have hp:=l6MoveP x (stepM x s).1.regs s.pc (by omega) h14 (fun ho=>by
  have h12:=hs.mem.nv12
  have h2:=hs.mem.na2
  simp only [hdC] at h12 h2
  obtain ⟨op,a,b,cc,d⟩:=x
  simp only [inOK,Bool.and_eq_true,decide_eq_true_eq] at h
  obtain ⟨⟨⟨⟨⟨o1,o2⟩,q0⟩,q1⟩,q2⟩,q3⟩:=h
  simp only at ho
  have key:op=1∨op=2∨op=3∨op=4∨op=5∨op=6∨op=7∨op=9∨op=10∨op=11∨op=12∨op=13:=by omega
  simp only
  rcases key with rfl | rfl | rfl | rfl | rfl | rfl | rfl | rfl | rfl | rfl | rfl | rfl<;>simp [fOK,topOf,kindsOf] at q0<;>omega)
 rw [mvN_step c hs h] at hp
 exact DC.borrow [0] (by
  simp [enumL,hOf,hpL,DM,DMs,CM,CMs,isI,inX,h14]
  exact ⟨(flat_I _).symm,fun a _=>rfl⟩) hp
open CtL (In Cd Mc stepM kindsOf topOf fOK inOK endOK codeOK)
theorem execA (c : Cd) (s : Mc) (T : List Ev) (hT : T.length ≤ 100000) (op a b c' d : Int) (ho : op = 1 ∨ op = 2 ∨ op = 3 ∨ op = 6 ∨ op = 7 ∨ op = 8 ∨ op = 9 ∨ op = 10 ∨ op = 11 ∨ op = 12 ∨ op = 13) (hc1 : c.list.length ≤ 400) (hs : MOK c s) (hx : c.list[s.pc]? = some ⟨op, a, b, c', d⟩) (h : inOK c.vars.length c.arrays.length c.list.length ⟨op, a, b, c', d⟩ = true) :
 DC Tryz.prog 78 [.agg (cdC c),.agg (mcA s),.c (.msl 5 2 0 T.length)] (exB s T) (exeR ⟨op,a,b,c',d⟩ s T):=by
 have hmx:=mx_eq
 have hmv:=fun q=>l6MoveO c ⟨op,a,b,c',d⟩ s hc1 hs h q
 obtain ⟨h1,h2,h3,h4⟩:=hs
 have hbl:=blk_len h4
 have hb0:=fun h x h0 h4'=>blk0_at h4 h (x:=x) h0 h4'
 have hb1:=fun h x h0 h4'=>blk1_at h4 h (x:=x) h0 h4'
 have hnv:=h4.nv
 have hna:=h4.na
 have hn12:=h4.nv12
 have hn2:=h4.na2
 obtain ⟨vs,ar,l⟩:=c
 obtain ⟨pc,rg,m⟩:=s
 simp only [hdC] at h1 h2 h3 hnv hna hn12 hn2 hx hc1 hbl hb0 hb1 hmv
 have hxl:(l.map inX)[pc]? = some (inX ⟨op,a,b,c',d⟩):=by rw [List.getElem?_map,hx];rfl
 have hrr:=fun (i:Int) (h0:0≤i) (h1:i≤13)=>nth_lt (l:=rg) (i:=i) h0 (by omega)
 have hrl:(rg.map I64).length=14:=by rw [List.length_map];exact h2
 have hrg:=fun (i:Int) (h0:0≤i) (h1:i≤13)=>reg_rng h2 h3 (i:=i) h0 h1
 have htl:=trC_len T
 have htl2:(trC T++[.v (.int .i64 5),I64 (pc:Int)]).length=(T.length+1) * 2:=by simp [htl];omega
 have hvl:(m.vals.map I64).length=m.vals.length:=List.length_map _
 have hvv:=fun (i:Int) (h0:0≤i) (h1:i<m.vals.length)=>nth_lt (l:=m.vals) (i:=i) h0 h1
 have ret:∀ (K n:Nat) (pcv:Int) (cs c1 c2 c4 c5:List C) (hp:Hp),hp 0=some (some c1)→hp 1=some (some c2)→hp 2=some (some (hdr 3 4 m.arrays.length))→hp 3=some (some c4)→hp 4=some (some c5)→hp K=some (some cs)→5≤K →
  pcv=((stepM ⟨op,a,b,c',d⟩ ⟨pc,rg,m⟩).1.pc:Int)→c1=(stepM ⟨op,a,b,c',d⟩ ⟨pc,rg,m⟩).1.regs.map I64→c2=(stepM ⟨op,a,b,c',d⟩ ⟨pc,rg,m⟩).1.mem.vals.map I64→(stepM ⟨op,a,b,c',d⟩ ⟨pc,rg,m⟩).1.mem.vals.length=m.vals.length→(stepM ⟨op,a,b,c',d⟩ ⟨pc,rg,m⟩).1.mem.arrays.length=m.arrays.length →
  c4=blk0 (stepM ⟨op,a,b,c',d⟩ ⟨pc,rg,m⟩).1.mem.arrays→c5=blk1 (stepM ⟨op,a,b,c',d⟩ ⟨pc,rg,m⟩).1.mem.arrays→cs=trC (T++(stepM ⟨op,a,b,c',d⟩ ⟨pc,rg,m⟩).2)→n=(T++(stepM ⟨op,a,b,c',d⟩ ⟨pc,rg,m⟩).2).length→RetOb 6 (exeR ⟨op,a,b,c',d⟩ ⟨pc,rg,m⟩ T) (.tup [.agg [.v (.int .i64 pcv),.msl 0 1 0 14,.msl 1 1 0 m.vals.length,.msl 2 1 0 m.arrays.length],.c (.msl K 2 0 n)]) hp:=by
  rintro K n pcv cs c1 c2 c4 c5 hp q1 q2 q3 q4 q5 qk hK e0 rfl rfl f1 f2 rfl rfl rfl rfl
  subst e0
  refine RetOb.ofQ (fun j=>if j=6 then some K else some j) [] (.tup [.agg (mcA (stepM ⟨op,a,b,c',d⟩ ⟨pc,rg,m⟩).1),.c (.msl 6 2 0 (T++(stepM ⟨op,a,b,c',d⟩ ⟨pc,rg,m⟩).2).length)]) (exB' (stepM ⟨op,a,b,c',d⟩ ⟨pc,rg,m⟩).1 (T++(stepM ⟨op,a,b,c',d⟩ ⟨pc,rg,m⟩).2)) ?_ ⟨rfl,rfl⟩ (by simp [exB'])
  simp [exB',mcA,enumL,hOf,DM,DMs,CM,CMs,HpOK,LowOK,upd,CMs_I,CMs_tr,CMs_hdr,CMs_b0,CMs_b1,f1,f2,q1,q2,q3,q4,q5,qk]
  omega
 rcases ho with rfl | rfl | rfl | rfl | rfl | rfl | rfl | rfl | rfl | rfl | rfl
 all_goals
  have hmv:=hmv (by simp [stepM,h2])
  simp only [inOK,kindsOf,fOK,topOf,Bool.and_eq_true,decide_eq_true_eq] at h
  simp at h
  generalize hR:exeR _ _ _=R at ret ⊢
  clear hR
  unfold exB mcA cdC
  simp only
 ·refine dcZ Tryz.func78 ?_
  simp only [go_sem,hxl,inX,hrl,hvl,set_I]
  iterate 20 ((try (refine drvZ Tryz.func78 ?_;simp only [go_sem,hxl,inX,hrl,hvl,set_I]));((with_reducible and_intros)<;>try exact sd))
  refine XK.callG [0] hmv ok106 (hhp_one (by simp [-List.map_set,hpL,upd,renCs_I,stepM,set_I])) (hbT ()) (fun d h' ⟨_,e⟩=>by subst e;simp) ?_
  rintro _ _ ⟨rfl,rfl⟩ _
  iterate 4 ((try (refine drvZ Tryz.func78 ?_;simp only [go_sem,renCs_I]));((with_reducible and_intros)<;>try exact sd))
  exact ret _ _ _ _ _ _ _ _ _ rfl rfl rfl rfl rfl rfl (by decide) rfl (by simp [stepM]) (by simp [stepM]) (by simp [stepM]) (by simp [stepM]) (by simp [stepM]) (by simp [stepM]) (by simp [stepM,trC,Ev.cells]) (by simp [stepM])
 ·have hv:=hvv b (by omega) (by omega)
  refine dcZ Tryz.func78 ?_
  simp only [go_sem,hxl,inX,hrl,hvl,set_I,hv]
  iterate 20 ((try (refine drvZ Tryz.func78 ?_;simp only [go_sem,hxl,inX,hrl,hvl,set_I,hv]));((with_reducible and_intros)<;>try exact sd))
  refine XK.callG [0] hmv ok106 (hhp_one (by simp [-List.map_set,hpL,upd,renCs_I,stepM,set_I])) (hbT ()) (fun d h' ⟨_,e⟩=>by subst e;simp) ?_
  rintro _ _ ⟨rfl,rfl⟩ _
  iterate 4 ((try (refine drvZ Tryz.func78 ?_;simp only [go_sem,renCs_I]));((with_reducible and_intros)<;>try exact sd))
  exact ret _ _ _ _ _ _ _ _ _ rfl rfl rfl rfl rfl rfl (by decide) rfl (by simp [stepM]) (by simp [stepM]) (by simp [stepM]) (by simp [stepM]) (by simp [stepM]) (by simp [stepM]) (by simp [stepM,trC,Ev.cells]) (by simp [stepM])
 ·have hv:=hrr b (by omega) (by omega)
  refine dcZ Tryz.func78 ?_
  simp only [go_sem,hxl,inX,hrl,hvl,set_I,hv]
  iterate 20 ((try (refine drvZ Tryz.func78 ?_;simp only [go_sem,hxl,inX,hrl,hvl,set_I,hv]));((with_reducible and_intros)<;>try exact sd))
  refine XK.callG [0] hmv ok106 (hhp_one (by simp [-List.map_set,hpL,upd,renCs_I,stepM,set_I])) (hbT ()) (fun d h' ⟨_,e⟩=>by subst e;simp) ?_
  rintro _ _ ⟨rfl,rfl⟩ _
  iterate 4 ((try (refine drvZ Tryz.func78 ?_;simp only [go_sem,renCs_I]));((with_reducible and_intros)<;>try exact sd))
  exact ret _ _ _ _ _ _ _ _ _ rfl rfl rfl rfl rfl rfl (by decide) rfl (by simp [stepM]) (by simp [stepM,setV]) (by simp [stepM,setV]) (by simp [stepM,setV]) (by simp [stepM,setV]) (by simp [stepM,setV]) (by simp [stepM,trC,Ev.cells]) (by simp [stepM])
 ·have hv:=hrr c' (by omega) (by omega)
  have hw:=hrr d (by omega) (by omega)
  have hop:=CtR.l3Bin b (nth rg c') (nth rg d) (hrg _ (by omega) (by omega)) (hrg _ (by omega) (by omega))
  refine dcZ Tryz.func78 ?_
  simp only [go_sem,hxl,inX,hrl,hvl,set_I,hv,hw]
  iterate 20 ((try (refine drvZ Tryz.func78 ?_;simp only [go_sem,hxl,inX,hrl,hvl,set_I,hv,hw]));((with_reducible and_intros)<;>try exact sd);(try first | refine XK.p hop ok105 ?_ | refine XK.gp hop ok105 ?_))
  refine XK.callG [0] hmv ok106 (hhp_one (by simp [-List.map_set,hpL,upd,renCs_I,stepM,set_I])) (hbT ()) (fun d h' ⟨_,e⟩=>by subst e;simp) ?_
  rintro _ _ ⟨rfl,rfl⟩ _
  iterate 4 ((try (refine drvZ Tryz.func78 ?_;simp only [go_sem,renCs_I]));((with_reducible and_intros)<;>try exact sd))
  exact ret _ _ _ _ _ _ _ _ _ rfl rfl rfl rfl rfl rfl (by decide) rfl (by simp [stepM]) (by simp [stepM]) (by simp [stepM]) (by simp [stepM]) (by simp [stepM]) (by simp [stepM]) (by simp [stepM,trC,Ev.cells]) (by simp [stepM])
 ·have hv:=hrr b (by omega) (by omega)
  have hw:=hrr c' (by omega) (by omega)
  have hu:=hrr d (by omega) (by omega)
  by_cases hz:nth rg b=0
  ·have g1:(nth rg b != 0)=false:=by simp [hz]
   refine dcZ Tryz.func78 ?_
   simp only [go_sem,hxl,inX,hrl,hvl,set_I,hv,hw,hu,hz,g1,bne_self_eq_false]
   iterate 20 ((try (refine drvZ Tryz.func78 ?_;simp only [go_sem,hxl,inX,hrl,hvl,set_I,hv,hw,hu,hz,g1,bne_self_eq_false]));((with_reducible and_intros)<;>try exact sd))
   refine XK.callG [0] hmv ok106 (hhp_one (by simp [-List.map_set,hpL,upd,renCs_I,stepM,set_I,hz])) (hbT ()) (fun d h' ⟨_,e⟩=>by subst e;simp) ?_
   rintro _ _ ⟨rfl,rfl⟩ _
   iterate 4 ((try (refine drvZ Tryz.func78 ?_;simp only [go_sem,renCs_I]));((with_reducible and_intros)<;>try exact sd))
   exact ret _ _ _ _ _ _ _ _ _ rfl rfl rfl rfl rfl rfl (by decide) rfl (by simp [stepM,hz]) (by simp [stepM]) (by simp [stepM]) (by simp [stepM]) (by simp [stepM]) (by simp [stepM]) (by simp [stepM,trC,Ev.cells]) (by simp [stepM])
  ·have g1:(nth rg b != 0)=true:=by simp [hz]
   refine dcZ Tryz.func78 ?_
   simp only [go_sem,hxl,inX,hrl,hvl,set_I,hv,hw,hu,hz,g1]
   iterate 20 ((try (refine drvZ Tryz.func78 ?_;simp only [go_sem,hxl,inX,hrl,hvl,set_I,hv,hw,hu,hz,g1]));((with_reducible and_intros)<;>try exact sd))
   refine XK.callG [0] hmv ok106 (hhp_one (by simp [-List.map_set,hpL,upd,renCs_I,stepM,set_I,hz])) (hbT ()) (fun d h' ⟨_,e⟩=>by subst e;simp) ?_
   rintro _ _ ⟨rfl,rfl⟩ _
   iterate 4 ((try (refine drvZ Tryz.func78 ?_;simp only [go_sem,renCs_I]));((with_reducible and_intros)<;>try exact sd))
   exact ret _ _ _ _ _ _ _ _ _ rfl rfl rfl rfl rfl rfl (by decide) rfl (by simp [stepM,hz]) (by simp [stepM]) (by simp [stepM]) (by simp [stepM]) (by simp [stepM]) (by simp [stepM]) (by simp [stepM,trC,Ev.cells]) (by simp [stepM])
 iterate 2
  focus
   refine dcZ Tryz.func78 ?_
   simp only [go_sem,hxl,inX,hrl,hvl,set_I]
   iterate 20 ((try (refine drvZ Tryz.func78 ?_;simp only [go_sem,hxl,inX,hrl,hvl,set_I]));((with_reducible and_intros)<;>try exact sd))
   refine XK.callG [0] hmv ok106 (hhp_one (by simp [-List.map_set,hpL,upd,renCs_I,stepM,set_I])) (hbT ()) (fun d h' ⟨_,e⟩=>by subst e;simp) ?_
   rintro _ _ ⟨rfl,rfl⟩ _
   iterate 4 ((try (refine drvZ Tryz.func78 ?_;simp only [go_sem,renCs_I]));((with_reducible and_intros)<;>try exact sd))
   exact ret _ _ _ _ _ _ _ _ _ rfl rfl rfl rfl rfl rfl (by decide) rfl (by simp [stepM]) (by simp [stepM]) (by simp [stepM]) (by simp [stepM]) (by simp [stepM]) (by simp [stepM]) (by simp [stepM,trC,Ev.cells]) (by simp [stepM])
 ·have hv:=hrr a (by omega) (by omega)
  have hrc:=hrg a (by omega) (by omega)
  refine dcZ Tryz.func78 ?_
  simp only [go_sem,hxl,inX,hrl,hvl,set_I,hv]
  iterate 20 ((try (refine drvZ Tryz.func78 ?_;simp only [go_sem,hxl,inX,hrl,hvl,set_I,hv]));((with_reducible and_intros)<;>try exact sd))
  refine XK.callG [0] hmv ok106 (hhp_one (by simp [-List.map_set,hpL,upd,renCs_I,stepM,set_I])) (hbT ()) (fun d h' ⟨_,e⟩=>by subst e;simp) ?_
  rintro _ _ ⟨rfl,rfl⟩ _
  iterate 4 ((try (refine drvZ Tryz.func78 ?_;simp only [go_sem,renCs_I]));((with_reducible and_intros)<;>try exact sd))
  exact ret _ _ _ _ _ _ _ _ _ rfl rfl rfl rfl rfl rfl (by decide) rfl (by simp [stepM]) (by simp [stepM]) (by simp [stepM]) (by simp [stepM]) (by simp [stepM]) (by simp [stepM]) (by simp [stepM,trC,Ev.cells]) (by simp [stepM])
 ·have hv:=hrr a (by omega) (by omega)
  refine dcZ Tryz.func78 ?_
  simp only [go_sem,hxl,inX,hrl,hvl,set_I,hv]
  iterate 20 ((try (refine drvZ Tryz.func78 ?_;simp only [go_sem,hxl,inX,hrl,hvl,set_I,hv]));((with_reducible and_intros)<;>try exact sd))
  refine XK.callG [0] hmv ok106 (hhp_one (by simp [-List.map_set,hpL,upd,renCs_I,stepM,set_I])) (hbT ()) (fun d h' ⟨_,e⟩=>by subst e;simp) ?_
  rintro _ _ ⟨rfl,rfl⟩ _
  iterate 4 ((try (refine drvZ Tryz.func78 ?_;simp only [go_sem,renCs_I]));((with_reducible and_intros)<;>try exact sd))
  exact ret _ _ _ _ _ _ _ _ _ rfl rfl rfl rfl rfl rfl (by decide) rfl (by simp [stepM]) (by simp [stepM]) (by simp [stepM]) (by simp [stepM]) (by simp [stepM]) (by simp [stepM]) (by simp [stepM,trC,Ev.cells]) (by simp [stepM])
 iterate 2
  focus
   refine dcZ Tryz.func78 ?_
   simp only [go_sem,hxl,inX,hrl,hvl,set_I]
   iterate 20 ((try (refine drvZ Tryz.func78 ?_;simp only [go_sem,hxl,inX,hrl,hvl,set_I]));((with_reducible and_intros)<;>try exact sd))
   refine XK.callG [0] hmv ok106 (hhp_one (by simp [-List.map_set,hpL,upd,renCs_I,stepM,set_I])) (hbT ()) (fun d h' ⟨_,e⟩=>by subst e;simp) ?_
   rintro _ _ ⟨rfl,rfl⟩ _
   iterate 4 ((try (refine drvZ Tryz.func78 ?_;simp only [go_sem,renCs_I]));((with_reducible and_intros)<;>try exact sd))
   exact ret _ _ _ _ _ _ _ _ _ rfl rfl rfl rfl rfl rfl (by decide) rfl (by simp [stepM]) (by simp [stepM]) (by simp [stepM]) (by simp [stepM]) (by simp [stepM]) (by simp [stepM]) (by simp [stepM,trC,Ev.cells]) (by simp [stepM])
end Go.Proofs.YtoakidkcppinpaaGreat.CtD
