/- Contracts of functions of the program, one behind the other, as plain data: what each call returns and which blocks it leaves. -/
import Derived.Lib.AppendIntMem
import Derived.Lib.LaidTab
import Derived.Test.YtfkhahkclgejnaaGreatDoorGFacts
import Derived.Test.YtfkhahkclgejnaaGreatDoorGAj
import Derived.Test.YtfkhahkclgejnaaGreatDoorGAl
import Derived.Test.YtfkhahkclgejnaaGreatDoorGAn
import Derived.Test.YtfkhahkclgejnaaGreatDoorGAo
import Derived.Test.YtfkhahkclgejnaaGreatDoorGAp
import Derived.Test.YtfkhahkclgejnaaGreatDoorGAk
import Derived.Test.YtfkhahkclgejnaaGreatDoorGAm
import Derived.Test.YtfkhahkclgejnaaGreatDoorGXb
set_option linter.unusedVariables false
set_option linter.unusedSimpArgs false
set_option linter.unusedSectionVars false
set_option maxHeartbeats 16000000
set_option maxRecDepth 100000
namespace Go.Proofs.YtfkhahkclgejnaaGreatDoor.CtD
open Go Go.CT CtF CtR
variable [Yn]
open CtL (In Cd)
open CtL (In Cd kindsOf)
theorem l6RandomV (bs : List Int) (n : Nat) (vs ar : Sl) (LC : List C) (m at_ N : Nat) (hb : Fits .u8 bs) (hl : bs.length ≤ 2000) (hn : n ≤ 274877906944) (hv : 1 ≤ vs.length ∧ vs.length ≤ 13) (ha : ar.length ≤ 2) (hat : at_ + 1 < N) (hN : N ≤ 13) (hLC : ∀ c ∈ LC, kf c = true) :
 DC Tryz.prog 78 [.c (.ptr 0 0),.agg [vs.c,ar.c,.msl 1 5 0 m],DI .i64 at_,DI .i64 N] [some (rdr bs n),some LC] (rnR bs n LC):=by
 have hmx:=mx_eq
 have hval:=fun n h=>l3Value bs n hb hl h
 have hnum:=num bs n [1,2,3,6,2,7,9,4,5,11,8,12] hb hl (by omega) (by decide) (by decide)
 generalize hR:rnR bs n LC=R
 refine dcZ Tryz.func78 ?_
 simp only [go_sem,rdr]
 iterate 2 ((try (refine drvZ Tryz.func78 ?_;simp only [go_sem,rdr]));((with_reducible and_intros)<;>try exact sd))
 refine XK.callG [0,194] (numO bs n [1,2,3,6,2,7,9,4,5,11,8,12] hb hl (by omega) (by decide) (by decide)) ok77 (hhp2 rfl rfl) (hbT ()) (fun d h' ⟨_,_,_,e⟩=>by subst e;simp) ?_
 rintro _ _ ⟨o,rfl,ho,rfl⟩ _
 have ho2:1≤o∧o≤13:=by simp at ho;omega
 have hfd:=fun (op:Int) h=>l6FieldsS op h
 have cs4:(ar.length=0∧o=4)∨(ar.length=0∧o=5)∨(ar.length=0∧o ≠ 4∧o ≠ 5)∨ar.length ≠ 0:=by omega
 rcases cs4 with ⟨h0,rfl⟩ | ⟨h0,rfl⟩ | ⟨h0,h4,h5⟩ | h0
 case' inl =>
  have e0:((ar.length:Int) == 0)=true:=by simp [h0]
  have hfo:=hfd 2 (by omega)
  iterate 5 ((try (refine drvZ Tryz.func78 ?_;simp only [go_sem,rdr,e0]));((with_reducible and_intros)<;>try exact sd);(try first | refine XK.p hfo ok65 ?_ | refine XK.gp hfo ok65 ?_))
  refine Go.loopQ (fun x : Nat × Nat × List Int × Int => [(0, .c (.ptr 0 0)), (2, DI .i64 at_), (3, DI .i64 N), (5, .c (.ptr 2 0)), (8, .c (.ptr 66 0)), (9, .c (.ptr 386 0)), (10, DS (sls x.2.2.2)), (11, .c (.msl 20 1 0 4)), (12, DI .i64 x.1)])
   (fun x=>[(0,some (rdr bs x.2.1)),(1,some LC),(2,some [vs.c,ar.c,.msl 1 5 0 m]),(20,some (x.2.2.1.map I64)),(66,some [I64 0,I64 0,I64 0,I64 0,I64 0]),(386,some [I64 x.2.2.2,I64 0,I64 0,I64 0,I64 0])])
   8192 (fun x=>x.1≤4∧n+1≤x.2.1∧x.2.1≤n+1+x.1∧x.2.2.1.length=4∧(1≤x.2.2.2∧x.2.2.2≤13)∧True) (fun x=>4 - x.1) ?_ (0,n+1,[0,0,0,0],2) (fun j=>if j=20 then some 1794 else some j) [] _ ⟨by simp,by simp,by simp,rfl,by simp,trivial⟩ ?_
  case' refine_2 =>
   simp only [go_sem,TmOK,DM,DMs,CM,CMs,forall_eq,exists_eq_left,Mq,HpOK,LowOK,rdr]
   simp [CMs,hOf,hpL]
   try exact CMs.kf hLC
 case' inr.inl =>
  have e0:((ar.length:Int) == 0)=true:=by simp [h0]
  have hfo:=hfd 2 (by omega)
  iterate 5 ((try (refine drvZ Tryz.func78 ?_;simp only [go_sem,rdr,e0]));((with_reducible and_intros)<;>try exact sd);(try first | refine XK.p hfo ok65 ?_ | refine XK.gp hfo ok65 ?_))
  refine Go.loopQ (fun x : Nat × Nat × List Int × Int => [(0, .c (.ptr 0 0)), (2, DI .i64 at_), (3, DI .i64 N), (5, .c (.ptr 2 0)), (8, .c (.ptr 66 0)), (9, .c (.ptr 386 0)), (10, DS (sls x.2.2.2)), (11, .c (.msl 20 1 0 4)), (12, DI .i64 x.1)])
   (fun x=>[(0,some (rdr bs x.2.1)),(1,some LC),(2,some [vs.c,ar.c,.msl 1 5 0 m]),(20,some (x.2.2.1.map I64)),(66,some [I64 0,I64 0,I64 0,I64 0,I64 0]),(386,some [I64 x.2.2.2,I64 0,I64 0,I64 0,I64 0])])
   8192 (fun x=>x.1≤4∧n+1≤x.2.1∧x.2.1≤n+1+x.1∧x.2.2.1.length=4∧(1≤x.2.2.2∧x.2.2.2≤13)∧True) (fun x=>4 - x.1) ?_ (0,n+1,[0,0,0,0],2) (fun j=>if j=20 then some 1794 else some j) [] _ ⟨by simp,by simp,by simp,rfl,by simp,trivial⟩ ?_
  case' refine_2 =>
   simp only [go_sem,TmOK,DM,DMs,CM,CMs,forall_eq,exists_eq_left,Mq,HpOK,LowOK,rdr]
   simp [CMs,hOf,hpL]
   try exact CMs.kf hLC
 case' inr.inr.inl =>
  have e0:((ar.length:Int) == 0)=true:=by simp [h0]
  have e4:(o == 4)=false:=by simp [h4]
  have e5:(o == 5)=false:=by simp [h5]
  have hfo:=hfd o ho2
  iterate 5 ((try (refine drvZ Tryz.func78 ?_;simp only [go_sem,rdr,e0,e4,e5]));((with_reducible and_intros)<;>try exact sd);(try first | refine XK.p hfo ok65 ?_ | refine XK.gp hfo ok65 ?_))
  refine Go.loopQ (fun x : Nat × Nat × List Int × Int => [(0, .c (.ptr 0 0)), (2, DI .i64 at_), (3, DI .i64 N), (5, .c (.ptr 2 0)), (8, .c (.ptr 66 0)), (9, .c (.ptr 386 0)), (10, DS (sls x.2.2.2)), (11, .c (.msl 20 1 0 4)), (12, DI .i64 x.1)])
   (fun x=>[(0,some (rdr bs x.2.1)),(1,some LC),(2,some [vs.c,ar.c,.msl 1 5 0 m]),(20,some (x.2.2.1.map I64)),(66,some [I64 0,I64 0,I64 0,I64 0,I64 0]),(386,some [I64 x.2.2.2,I64 0,I64 0,I64 0,I64 0])])
   8192 (fun x=>x.1≤4∧n+1≤x.2.1∧x.2.1≤n+1+x.1∧x.2.2.1.length=4∧(1≤x.2.2.2∧x.2.2.2≤13)∧True) (fun x=>4 - x.1) ?_ (0,n+1,[0,0,0,0],o) (fun j=>if j=20 then some 1666 else some j) [] _ ⟨by simp,by simp,by simp,rfl,ho2,trivial⟩ ?_
  case' refine_2 =>
   simp only [go_sem,TmOK,DM,DMs,CM,CMs,forall_eq,exists_eq_left,Mq,HpOK,LowOK,rdr]
   simp [CMs,hOf,hpL]
   try exact CMs.kf hLC
 case' inr.inr.inr =>
  have e0:((ar.length:Int) == 0)=false:=by simp [h0]
  have hfo:=hfd o ho2
  iterate 5 ((try (refine drvZ Tryz.func78 ?_;simp only [go_sem,rdr,e0]));((with_reducible and_intros)<;>try exact sd);(try first | refine XK.p hfo ok65 ?_ | refine XK.gp hfo ok65 ?_))
  refine Go.loopQ (fun x : Nat × Nat × List Int × Int => [(0, .c (.ptr 0 0)), (2, DI .i64 at_), (3, DI .i64 N), (5, .c (.ptr 2 0)), (8, .c (.ptr 66 0)), (9, .c (.ptr 386 0)), (10, DS (sls x.2.2.2)), (11, .c (.msl 20 1 0 4)), (12, DI .i64 x.1)])
   (fun x=>[(0,some (rdr bs x.2.1)),(1,some LC),(2,some [vs.c,ar.c,.msl 1 5 0 m]),(20,some (x.2.2.1.map I64)),(66,some [I64 0,I64 0,I64 0,I64 0,I64 0]),(386,some [I64 x.2.2.2,I64 0,I64 0,I64 0,I64 0])])
   8192 (fun x=>x.1≤4∧n+1≤x.2.1∧x.2.1≤n+1+x.1∧x.2.2.1.length=4∧(1≤x.2.2.2∧x.2.2.2≤13)∧True) (fun x=>4 - x.1) ?_ (0,n+1,[0,0,0,0],o) (fun j=>if j=20 then some 1666 else some j) [] _ ⟨by simp,by simp,by simp,rfl,ho2,trivial⟩ ?_
  case' refine_2 =>
   simp only [go_sem,TmOK,DM,DMs,CM,CMs,forall_eq,exists_eq_left,Mq,HpOK,LowOK,rdr]
   simp [CMs,hOf,hpL]
   try exact CMs.kf hLC
 all_goals
  rintro ⟨k,pos,pt,op⟩ ⟨hk,hp1,hp2,hpt,hop,hoa⟩ again
  simp only at hk hp1 hp2 hpt hop again ⊢
  have hsz:=sls_size op
  have hpl:(pt.map I64).length=4:=by rw [List.length_map];exact hpt
  by_cases hlk:k<(sls op).size
  ·have hk0:=(sls_len op k (by omega)).1 hlk
   have hat:=sls_at op k hk0
   have hk6:=kinds_le op k
   generalize (kindsOf op).getD k 0=kd at *
   have hkc:kd=1∨kd=2∨kd=3∨kd=4∨kd=5∨kd=6:=by omega
   have hat:(((sls op).data.toList.getD k 0).toNat:Int)=(((slt kd).toNat:Nat):Int):=by rw [hat]
   rcases hkc with rfl | rfl | rfl | rfl | rfl | rfl
   ·rw [show (((slt 1).toNat:Nat):Int)=114 from rfl] at hat
    refine drvL Tryz.func78 ?_
    simp only [go_sem,rdr,hlk]
    iterate 8 ((try (refine drvZ Tryz.func78 ?_;simp only [go_sem,rdr,hlk,hat]));((with_reducible and_intros)<;>try exact sd))
    refine XK.callG [0] (pick bs pos 3 hb hl (by omega) (by simp only [InK];omega)) ok74 (hhp_one rfl) (hbT ()) (fun d h' ⟨v,_,_,e⟩=>by subst e;simp) ?_
    rintro _ _ ⟨v,rfl,hv,rfl⟩ _
    iterate 3 ((try (refine drvZ Tryz.func78 ?_;simp only [go_sem,rdr,hlk,hpl,set_I]));((with_reducible and_intros)<;>try exact sd))
    refine again (k+1,(pos+1),pt.set k v,op) some [] _ ⟨(show k+1≤4 by omega),(show n+1≤(pos+1) by omega),(show (pos+1)≤n+1+(k+1) by omega),by rw [List.length_set];exact hpt,hop,hoa⟩ (show 4 - (k+1)<4 - k by omega) ?_
    simp only [go_sem,TmOK,DM,DMs,CM,CMs,forall_eq,exists_eq_left,Mq,HpOK,LowOK,rdr,set_I]
    simp [-List.map_set,CMs_I,set_I]
    try exact CMs.kf hLC
   ·rw [show (((slt 2).toNat:Nat):Int)=99 from rfl] at hat
    refine drvL Tryz.func78 ?_
    simp only [go_sem,rdr,hlk]
    iterate 8 ((try (refine drvZ Tryz.func78 ?_;simp only [go_sem,rdr,hlk,hat]));((with_reducible and_intros)<;>try exact sd))
    refine XK.callG [0] (hval pos (by omega)) ok99 (hhp_one rfl) (hbT ()) (fun d h' ⟨_,_,_,_,_,_,e⟩=>by subst e;simp) ?_
    rintro _ _ ⟨v,rfl,hv,pos2,hp1,hp2,rfl⟩ _
    iterate 3 ((try (refine drvZ Tryz.func78 ?_;simp only [go_sem,rdr,hlk,hpl,set_I]));((with_reducible and_intros)<;>try exact sd))
    refine again (k+1,pos2,pt.set k v,op) some [] _ ⟨(show k+1≤4 by omega),(show n+1≤pos2 by omega),(show pos2≤n+1+(k+1) by omega),by rw [List.length_set];exact hpt,hop,hoa⟩ (show 4 - (k+1)<4 - k by omega) ?_
    simp only [go_sem,TmOK,DM,DMs,CM,CMs,forall_eq,exists_eq_left,Mq,HpOK,LowOK,rdr,set_I]
    simp [-List.map_set,CMs_I,set_I]
    try exact CMs.kf hLC
   ·rw [show (((slt 3).toNat:Nat):Int)=118 from rfl] at hat
    refine drvL Tryz.func78 ?_
    simp only [go_sem,rdr,hlk]
    iterate 8 ((try (refine drvZ Tryz.func78 ?_;simp only [go_sem,rdr,hlk,hat]));((with_reducible and_intros)<;>try exact sd))
    refine XK.callG [0] (pick bs pos vs.length hb hl (by omega) (by simp only [InK];omega)) ok74 (hhp_one rfl) (hbT ()) (fun d h' ⟨v,_,_,e⟩=>by subst e;simp) ?_
    rintro _ _ ⟨v,rfl,hv,rfl⟩ _
    iterate 3 ((try (refine drvZ Tryz.func78 ?_;simp only [go_sem,rdr,hlk,hpl,set_I]));((with_reducible and_intros)<;>try exact sd))
    refine again (k+1,(pos+1),pt.set k v,op) some [] _ ⟨(show k+1≤4 by omega),(show n+1≤(pos+1) by omega),(show (pos+1)≤n+1+(k+1) by omega),by rw [List.length_set];exact hpt,hop,hoa⟩ (show 4 - (k+1)<4 - k by omega) ?_
    simp only [go_sem,TmOK,DM,DMs,CM,CMs,forall_eq,exists_eq_left,Mq,HpOK,LowOK,rdr,set_I]
    simp [-List.map_set,CMs_I,set_I]
    try exact CMs.kf hLC
   ·rw [show (((slt 4).toNat:Nat):Int)=97 from rfl] at hat
    refine drvL Tryz.func78 ?_
    simp only [go_sem,rdr,hlk]
    iterate 8 ((try (refine drvZ Tryz.func78 ?_;simp only [go_sem,rdr,hlk,hat]));((with_reducible and_intros)<;>try exact sd))
    refine XK.callG [0] (pick bs pos ar.length hb hl (by omega) (by simp only [InK];omega)) ok74 (hhp_one rfl) (hbT ()) (fun d h' ⟨v,_,_,e⟩=>by subst e;simp) ?_
    rintro _ _ ⟨v,rfl,hv,rfl⟩ _
    iterate 3 ((try (refine drvZ Tryz.func78 ?_;simp only [go_sem,rdr,hlk,hpl,set_I]));((with_reducible and_intros)<;>try exact sd))
    refine again (k+1,(pos+1),pt.set k v,op) some [] _ ⟨(show k+1≤4 by omega),(show n+1≤(pos+1) by omega),(show (pos+1)≤n+1+(k+1) by omega),by rw [List.length_set];exact hpt,hop,hoa⟩ (show 4 - (k+1)<4 - k by omega) ?_
    simp only [go_sem,TmOK,DM,DMs,CM,CMs,forall_eq,exists_eq_left,Mq,HpOK,LowOK,rdr,set_I]
    simp [-List.map_set,CMs_I,set_I]
    try exact CMs.kf hLC
   ·rw [show (((slt 5).toNat:Nat):Int)=111 from rfl] at hat
    refine drvL Tryz.func78 ?_
    simp only [go_sem,rdr,hlk]
    iterate 8 ((try (refine drvZ Tryz.func78 ?_;simp only [go_sem,rdr,hlk,hat]));((with_reducible and_intros)<;>try exact sd))
    refine XK.callG [0] (pick bs pos 7 hb hl (by omega) (by simp only [InK];omega)) ok74 (hhp_one rfl) (hbT ()) (fun d h' ⟨v,_,_,e⟩=>by subst e;simp) ?_
    rintro _ _ ⟨v,rfl,hv,rfl⟩ _
    iterate 3 ((try (refine drvZ Tryz.func78 ?_;simp only [go_sem,rdr,hlk,hpl,set_I]));((with_reducible and_intros)<;>try exact sd))
    refine again (k+1,(pos+1),pt.set k (4+v),op) some [] _ ⟨(show k+1≤4 by omega),(show n+1≤(pos+1) by omega),(show (pos+1)≤n+1+(k+1) by omega),by rw [List.length_set];exact hpt,hop,hoa⟩ (show 4 - (k+1)<4 - k by omega) ?_
    simp only [go_sem,TmOK,DM,DMs,CM,CMs,forall_eq,exists_eq_left,Mq,HpOK,LowOK,rdr,set_I]
    simp [-List.map_set,CMs_I,set_I]
    try exact CMs.kf hLC
   ·rw [show (((slt 6).toNat:Nat):Int)=116 from rfl] at hat
    refine drvL Tryz.func78 ?_
    simp only [go_sem,rdr,hlk]
    iterate 8 ((try (refine drvZ Tryz.func78 ?_;simp only [go_sem,rdr,hlk,hat]));((with_reducible and_intros)<;>try exact sd))
    refine XK.callG [0] (pick bs pos ((N:Int) - at_ - 1) hb hl (by omega) (by simp only [InK];omega)) ok74 (hhp_one rfl) (hbT ()) (fun d h' ⟨v,_,_,e⟩=>by subst e;simp) ?_
    rintro _ _ ⟨v,rfl,hv,rfl⟩ _
    iterate 3 ((try (refine drvZ Tryz.func78 ?_;simp only [go_sem,rdr,hlk,hpl,set_I]));((with_reducible and_intros)<;>try exact sd))
    refine again (k+1,(pos+1),pt.set k ((at_:Int)+1+v),op) some [] _ ⟨(show k+1≤4 by omega),(show n+1≤(pos+1) by omega),(show (pos+1)≤n+1+(k+1) by omega),by rw [List.length_set];exact hpt,hop,hoa⟩ (show 4 - (k+1)<4 - k by omega) ?_
    simp only [go_sem,TmOK,DM,DMs,CM,CMs,forall_eq,exists_eq_left,Mq,HpOK,LowOK,rdr,set_I]
    simp [-List.map_set,CMs_I,set_I]
    try exact CMs.kf hLC
  ·clear again
   match pt,hpt with
   | [p0,p1,p2,p3],_ =>
    refine drvL Tryz.func78 ?_
    simp only [go_sem,rdr,hlk]
    iterate 5 ((try (refine drvZ Tryz.func78 ?_;simp only [go_sem,rdr,hlk]));((with_reducible and_intros)<;>try exact sd))
    refine RetOb.ofQ (fun j=>if j<2 then some j else none) [] (.agg (inX ⟨op,p0,p1,p2,p3⟩)) [some (rdr bs pos),some LC] ?_ (by rw [← hR];exact ⟨_,rfl,pos,by omega,by omega,rfl⟩) (by simp)
    simp [inX,enumL,hOf,DM,DMs,CM,CMs,HpOK,LowOK,upd,rdr,kf]
    try exact CMs.kf hLC
open CtL (In Cd kindsOf)
theorem prog_lab {p:Pg} (h:progOK p=true):(∀ x ∈ p.vars,0≤x∧x≤3)∧∀ x ∈ p.arrays,0≤x∧x≤3:=by
 simp only [progOK,headsOK,Bool.and_eq_true] at h
 obtain ⟨⟨⟨⟨⟨_,h1⟩,h2⟩,h3⟩,_⟩,_⟩:=h
 simp_all [labs]
theorem l6RandomO (bs : List Int) (n : Nat) (vs ar : List Int) (LC : List C) (m at_ N : Nat) (hb : Fits .u8 bs) (hl : bs.length ≤ 2000) (hn : n ≤ 274877906944) (hv : 1 ≤ vs.length ∧ vs.length ≤ 13) (ha : ar.length ≤ 2) (hat : at_ + 1 < N) (hN : N ≤ 13) (hLC : ∀ c ∈ LC, kf c = true) :
 DC Tryz.prog 78 [.c (.ptr 0 0), .agg [.msl 2 1 0 vs.length, .msl 3 1 0 ar.length, .msl 1 5 0 m], DI .i64 at_, DI .i64 N] [some (rdr bs n), some LC, some (vs.map I64), some (ar.map I64)]
  (fun r h=>∃ x:In,r = .agg (inX x)∧∃ n':Nat,n≤n'∧n'≤n+50∧h=[some (rdr bs n'),some LC,some (vs.map I64),some (ar.map I64)]):=by
 refine DC_imp (DC.lit (h := [some (rdr bs n), some LC]) (hB := [some (vs.map I64), some (ar.map I64)]) (R := rnR bs n LC) (lit2 (n := 2) (d0 := .c (.ptr 0 0)) (kx := 2) (ky := 3) (lx := vs.length) (ly := ar.length) (cr := [.msl 1 5 0 m]) (dr := [DI .i64 at_, DI .i64 N]) rfl rfl rfl)
  (fun args ⟨x,y,hx,hy,e⟩=>by subst e;exact l6RandomV bs n x y LC m at_ N hb hl hn (by omega) (by omega) hat hN hLC) (fun cs hcs c hc=>by
   simp only [List.mem_cons,List.not_mem_nil,or_false,Option.some.injEq] at hcs
   rcases hcs with rfl | rfl
   ·exact rdr_kf _ _ c hc
   ·exact hLC c hc) (fun d h' ⟨_,_,_,_,_,e⟩=>by subst e;rfl)) ?_
 rintro d h' ⟨_,⟨x,rfl,n',q3,q4,rfl⟩,rfl⟩
 exact ⟨x,rfl,n',q3,q4,rfl⟩
def co6RO (bs:List Int) (n:Nat) (r:D) (h:List (Option (List C))):Prop:=∃ (vs ar:List Int) (l:List In),r = .agg [.msl 1 1 0 vs.length,.msl 2 1 0 ar.length,.msl 3 5 0 l.length]∧(1≤vs.length∧vs.length≤13)∧ar.length≤2∧(1≤l.length∧l.length≤13)∧(∀ x ∈ vs,0≤x∧x≤3)∧(∀ x ∈ ar,0≤x∧x≤3)∧∃ n':Nat,n≤n'∧n'≤n+1001000∧h=[some (rdr bs n'),some (vs.map I64),some (ar.map I64),some (inC l)]
theorem l6CodeO (bs:List Int) (n:Nat) (hb:Fits .u8 bs) (hl:bs.length≤2000) (hn:n≤270000000000):DC Tryz.prog 50 [.c (.ptr 0 0)] [some (rdr bs n)] (co6RO bs n):=by
 have hmx:=mx_eq
 have hpr:=l2ProgramO bs n hb hl (by omega)
 have hrnd:=fun n vs ar LC m at_ N h1 h2 h3 h4 h5 h6=>l6RandomO bs n vs ar LC m at_ N hb hl h1 h2 h3 h4 h5 h6
 generalize hR:co6RO bs n=R
 refine dcZ Tryz.func50 ?_
 simp only [go_sem,rdr,renCs_I]
 ((try (refine drvZ Tryz.func50 ?_;simp only [go_sem,rdr,renCs_I]));((with_reducible and_intros)<;>try exact sd))
 refine XK.callG [0] hpr ok76 (hhp_one rfl) (hbT ()) (fun d h' ⟨_,_,_,_,_,_,_,_,e⟩=>by subst e;simp) ?_
 rintro _ _ ⟨vs,ar,bd,rfl,hp,n1,hn1,hn2,rfl⟩ _
 have hln:=prog_len hp.ok
 have hlb:=prog_lab hp.ok
 have hnum:=num bs n1 [6,8,4,10,1,12] hb hl (by omega) (by decide) (by decide)
 simp only at hln
 iterate 4 ((try (refine drvZ Tryz.func50 ?_;simp only [go_sem,rdr,renCs_I]));((with_reducible and_intros)<;>try exact sd))
 refine XK.callG [0,833] (numO bs n1 [6,8,4,10,1,12] hb hl (by omega) (by decide) (by decide)) ok77 (hhp2 rfl rfl) (hbT ()) (fun d h' ⟨_,_,_,e⟩=>by subst e;simp) ?_
 rintro _ _ ⟨o,rfl,ho,rfl⟩ _
 have ho2:1≤o∧o≤12:=by simp at ho;omega
 obtain ⟨N,rfl⟩:∃ N:Nat,o=N:=⟨o.toNat,by omega⟩
 clear ho
 iterate 3 ((try (refine drvZ Tryz.func50 ?_;simp only [go_sem,rdr,renCs_I]));((with_reducible and_intros)<;>try exact sd))
 refine Go.loopQ (fun x : Nat × List In => [(0, .c (.ptr 0 0)), (2, .c (.ptr 1 0)), (4, .c (.ptr 641 0)), (5, DI .i64 N), (6, DI .i64 x.2.length)])
  (fun x=>[(0,some (rdr bs x.1)),(1,some [.v (.slice none 0 0),.v (.slice none 0 0),.v (.slice none 0 0)]),(641,some [.msl 129 1 0 vs.length,.msl 130 1 0 ar.length,.msl 700 5 0 x.2.length]),(129,some (vs.map I64)),(130,some (ar.map I64)),(700,some (inC x.2))])
  4096 (fun x=>x.2.length+1≤N∧n1+1≤x.1∧x.1≤n1+1+50 * x.2.length) (fun x=>N - x.2.length) ?_ (n1+1,[]) (fun j=>if j=700 then none else some j) [] _ ⟨by simp;omega,by simp,by simp⟩ ?_
 ·rintro ⟨pos,l⟩ ⟨hi1,hi2,hi3⟩ again
  simp only at hi1 hi2 hi3 again ⊢
  rcases Nat.lt_or_ge (l.length+1) N with hlt | hge
  ·have hz:((l.length:Int)<(N:Int) - 1)=True:=eq_true (by omega)
   have hil:=inC_len l
   have hrn:=hrnd pos vs ar (inC l) l.length l.length N (by omega) ⟨hln.1,by omega⟩ hln.2.2 hlt (by omega) (inC_kf l)
   refine drvL Tryz.func50 ?_
   simp only [go_sem,rdr,renCs_I,hz]
   iterate 3 ((try (refine drvZ Tryz.func50 ?_;simp only [go_sem,rdr,renCs_I,hz]));((with_reducible and_intros)<;>try exact sd))
   refine XK.callG [0,700,129,130] hrn ok78 (hhpG (by simp [HH,upd,hOf,hpL,renCs_in,renCs_rdr,renCs_I,renCs,renC,rk0,rdr])) (hbT ()) (fun d h' ⟨_,_,_,_,_,e⟩=>by subst e;simp) ?_ (fun _=>⟨by kernel_rfl,_,_,⟨⟨0,0,0,0,0⟩,rfl,pos,by omega,by omega,rfl⟩,by simp⟩)
   rintro _ _ ⟨x,rfl,pos2,hp1,hp2,rfl⟩ _
   obtain ⟨xo,xa,xb,xc,xd⟩:=x
   iterate 4 ((try (refine drvZ Tryz.func50 ?_;simp only [go_sem,rdr,renCs_I,inX,renCs_in]));((with_reducible and_intros)<;>try exact sd))
   have hsn:inC l++[.v (.int .i64 xo),.v (.int .i64 xa),.v (.int .i64 xb),.v (.int .i64 xc),.v (.int .i64 xd)]=inC (l++[⟨xo,xa,xb,xc,xd⟩]):=by rw [inC_app,inC_one];rfl
   refine again (pos2,l++[⟨xo,xa,xb,xc,xd⟩]) (fun j=>if j=700 then some 4864 else some j) [] _ ⟨by simp;omega,by omega,by simp;omega⟩ (by simp;omega) ?_
   simp only [go_sem,TmOK,DM,DMs,CM,CMs,forall_eq,exists_eq_left,Mq,HpOK,LowOK,rdr,renCs_I,hsn]
   simp [CMs_in,CMs_I]
  ·have hz:((l.length:Int)<(N:Int) - 1)=False:=eq_false (by omega)
   have hil:=inC_len l
   clear again
   refine drvL Tryz.func50 ?_
   simp only [go_sem,rdr,renCs_I,hz]
   iterate 5 ((try (refine drvZ Tryz.func50 ?_;simp only [go_sem,rdr,renCs_I,hz]));((with_reducible and_intros)<;>try exact sd))
   have hsn:inC l++[.v (.int .i64 13),.v (.int .i64 0),.v (.int .i64 0),.v (.int .i64 0),.v (.int .i64 0)]=inC (l++[⟨13,0,0,0,0⟩]):=by rw [inC_app,inC_one];rfl
   have fin:∀ (l2:List In) (ps nb:Nat) (hp:Hp),l2.length=N→nb=N→n≤ps→ps≤n+1001000→hp 0=some (some (rdr bs ps))→hp 4608=some (some (inC l2))→hp 129=some (some (vs.map I64))→hp 130=some (some (ar.map I64))→RetOb 1 R (.agg [.msl 129 1 0 vs.length,.msl 130 1 0 ar.length,.msl 4608 5 0 nb]) hp:=fun l2 ps nb hp f1 f2 f3 f4 f5 f6 f7 f8=>by
    subst f2
    refine RetOb.ofQ (fun j=>if j=0 then some 0 else if j=1 then some 129 else if j=2 then some 130 else if j=3 then some 4608 else none) [] (.agg [.msl 1 1 0 vs.length,.msl 2 1 0 ar.length,.msl 3 5 0 l2.length]) [some (rdr bs ps),some (vs.map I64),some (ar.map I64),some (inC l2)] ?_ (by rw [← hR];exact ⟨vs,ar,l2,rfl,⟨hln.1,by omega⟩,hln.2.2,by omega,hlb.1,hlb.2,ps,by omega,by omega,rfl⟩) (by simp)
    simp [enumL,hOf,DM,DMs,CM,CMs,HpOK,LowOK,upd,rdr,isI,kf,CMs_in,CMs_I,f1,f5,f6,f7,f8]
   by_cases h3:3<N
   ·have g3:((3:Int)<(N:Int))=True:=eq_true (by omega)
    iterate 4 ((try (refine drvZ Tryz.func50 ?_;simp only [go_sem,rdr,renCs_I,g3,hsn]));((with_reducible and_intros)<;>try exact sd))
    refine XK.callT 2 true [0] (pick bs pos 4 hb hl (by omega) (by simp only [InK];omega)) ok74 (hhp_one rfl) (hbT ()) (fun d h' ⟨v,_,_,e⟩=>by subst e;simp) ?_
    rintro _ _ ⟨v,rfl,hv,rfl⟩ _
    clear hv
    by_cases hv0:v=0
    ·subst hv0
     obtain ⟨K,hK⟩:∃ K,N=K+2:=⟨N - 2,by omega⟩
     have hk2:(N:Int) - 2=(K:Int):=by omega
     have hlen2:(l++[⟨13,0,0,0,0⟩]:List In).length=N:=by simp;omega
     obtain ⟨x0,hx0⟩:∃ x,(l++[⟨13,0,0,0,0⟩]:List In)[0]? = some x:=⟨_,List.getElem?_eq_getElem (by rw [hlen2];omega)⟩
     have hlc:=inC_len (l++[⟨13,0,0,0,0⟩])
     generalize (l++[⟨13,0,0,0,0⟩]:List In)=L2 at *
     iterate 3 ((try (refine drvZ Tryz.func50 ?_;simp only [go_sem,rdr,renCs_I]));((with_reducible and_intros)<;>try exact sd))
     refine XK.callG [0] (pick bs (pos+1) 3 hb hl (by omega) (by simp only [InK];omega)) ok74 (hhp_one rfl) (hbT ()) (fun d h' ⟨v,_,_,e⟩=>by subst e;simp) ?_ (fun _=>⟨by kernel_rfl,_,_,⟨0,rfl,by omega,rfl⟩,by simp⟩)
     rintro _ _ ⟨q,rfl,hq,rfl⟩ _
     have hq2:0≤q∧q<3:=by omega
     have hp0:=inC_put hx0 ⟨1,5,1+q,0,0⟩
     simp only [putCells,inX,Nat.zero_mul,Nat.zero_add,Nat.reduceAdd] at hp0
     have hl3:(L2.set 0 ⟨1,5,1+q,0,0⟩).length=N:=by rw [List.length_set,hlen2]
     obtain ⟨xK,hxK⟩:∃ x,(L2.set 0 ⟨1,5,1+q,0,0⟩)[K]? = some x:=⟨_,List.getElem?_eq_getElem (by rw [hl3];omega)⟩
     have hlc3:=inC_len (L2.set 0 ⟨1,5,1+q,0,0⟩)
     have hpK:=inC_put hxK ⟨10,5,1,0,0⟩
     simp only [putCells,inX] at hpK
     have hlf:((L2.set 0 ⟨1,5,1+q,0,0⟩).set K ⟨10,5,1,0,0⟩).length=N:=by rw [List.length_set,hl3]
     generalize (L2.set 0 ⟨1,5,1+q,0,0⟩)=L3 at *
     iterate 4 ((try (refine drvZ Tryz.func50 ?_;simp only [go_sem,rdr,renCs_I,hp0,hk2]));((with_reducible and_intros)<;>try exact sd))
     exact fin (L3.set K ⟨10,5,1,0,0⟩) (pos+2) _ _ hlf (by omega) (by omega) (by omega) rfl (congrArg (fun x=>some (some x)) hpK) rfl rfl
    ·have e0:(v == 0)=false:=by simp [hv0]
     iterate 4 ((try (refine drvZ Tryz.func50 ?_;simp only [go_sem,rdr,renCs_I,e0]));((with_reducible and_intros)<;>try exact sd))
     exact fin (l++[⟨13,0,0,0,0⟩]) (pos+1) _ _ (by simp;omega) (by omega) (by omega) (by omega) rfl rfl rfl rfl
   ·have g3:((3:Int)<(N:Int))=False:=eq_false (by omega)
    iterate 6 ((try (refine drvZ Tryz.func50 ?_;simp only [go_sem,rdr,renCs_I,g3,hsn]));((with_reducible and_intros)<;>try exact sd);(try first | refine XK.gs (DB false) ?_))
    exact fin (l++[⟨13,0,0,0,0⟩]) pos _ _ (by simp;omega) (by omega) (by omega) (by omega) rfl rfl rfl rfl
 ·simp only [go_sem,TmOK,DM,DMs,CM,CMs,forall_eq,exists_eq_left,Mq,HpOK,LowOK,rdr,renCs_I]
  simp [CMs,kf,inC,CMs_I]
theorem TL.nil {tm:Nat→Option D}:∀ p ∈ ([]:List (Nat × D)),tm p.1=some p.2∧WsD p.2:=fun p h=>by simp at h
theorem TL.cons {tm:Nat→Option D} {n:Nat} {d:D} {l:List (Nat × D)} (h1:tm n=some d) (h2:WsD d) (h:∀ p ∈ l,tm p.1=some p.2∧WsD p.2):∀ p ∈ (n,d) :: l,tm p.1=some p.2∧WsD p.2:=fun p hp=>by
 rcases List.mem_cons.1 hp with rfl | hp
 ·exact ⟨h1,h2⟩
 ·exact h p hp
theorem ML.nil {hT:Hp} {tm:Nat→Option D}:∀ p ∈ ([]:List (Nat × D)),∃ d,tm p.1=some d∧SmD hT d p.2:=fun p h=>by simp at h
theorem ML.cons {hT:Hp} {tm:Nat→Option D} {n:Nat} {d0 d:D} {l:List (Nat × D)} (h1:tm n=some d0) (h2:SmD hT d0 d) (h:∀ p ∈ l,∃ d,tm p.1=some d∧SmD hT d p.2):∀ p ∈ (n,d) :: l,∃ d,tm p.1=some d∧SmD hT d p.2:=fun p hp=>by
 rcases List.mem_cons.1 hp with rfl | hp
 ·exact ⟨d0,h1,h2⟩
 ·exact h p hp
theorem HL.nil {hT hp:Hp}:∀ p ∈ ([]:List (Nat × Option (List C))),∃ cs cs',hp p.1=some (some cs)∧p.2=some cs'∧Sms hT cs cs':=fun p h=>by simp at h
theorem HL.cons {hT hp : Hp} {n : Nat} {cs0 cs1 : List C} {l : List (Nat × Option (List C))} (h1 : hp n = some (some cs0)) (h2 : Sms hT cs0 cs1) (h : ∀ p ∈ l, ∃ cs cs', hp p.1 = some (some cs) ∧ p.2 = some cs' ∧ Sms hT cs cs') :
 ∀ p ∈ (n,some cs1) :: l,∃ cs cs',hp p.1=some (some cs)∧p.2=some cs'∧Sms hT cs cs':=fun p hp=>by
 rcases List.mem_cons.1 hp with rfl | hp
 ·exact ⟨cs0,cs1,h1,rfl,h2⟩
 ·exact h p hp
theorem I_ren (r:Nat→Nat) (L:List Int):renCs r (L.map I64)=L.map I64:=renCs_I r L
def rowsM (b w n:Nat):List C:=(List.range n).map fun (i:Nat)=>C.msl (b+i) 1 0 w
theorem rowsM_cm {hT hS:Hp} {r:Nat→Option Nat} {fz:List Nat} {b b' w n:Nat} (h:∀ i,i<n→r (b+i)=some (b' + i)∧hT (b+i) ≠ none):CMs hT r hS fz (rowsM b w n) (rowsM b' w n):=by
 unfold rowsM
 have:∀ l:List Nat,(∀ i ∈ l,i<n)→CMs hT r hS fz (l.map fun i=>C.msl (b+i) 1 0 w) (l.map fun i=>C.msl (b' + i) 1 0 w):=fun l=>by
  induction l with
  | nil=>intro _;simp [CMs]
  | cons a s ih =>
   intro hl
   obtain ⟨h1,h2⟩:=h a (hl a (by simp))
   simp only [List.map_cons,CMs,CM]
   refine ⟨?_,ih fun i hi=>hl i (by simp [hi])⟩
   simp [h1,h2]
 exact this _ fun i hi=>by simpa using hi
theorem enumL_blks : ∀ (L : List (List C)) (b : Nat), enumL b (L.map some) = blks b L
 | [],b=>rfl
 | x :: r,b=>by rw [List.map_cons,enumL,blks,enumL_blks r (b+1)]
def hB (w:Nat) (rows:List (List Bool)):List (Option (List C)):=some (rowsM 1 w rows.length) :: (rows.map boolsC).map some
theorem hB_enum (w:Nat) (rows:List (List Bool)):enumL 0 (hB w rows)=(0,some (rowsM 1 w rows.length)) :: blks 1 (rows.map boolsC):=by rw [hB,enumL,enumL_blks]
theorem low_of {r : Nat → Option Nat} {hT : Hp} : ∀ {m : Nat}, (∀ i, i < m → r i = some i ∧ hT i ≠ none) → LowOK r hT m
 | 0,_=>trivial
 | m+1,h=>⟨h m (by omega),low_of fun i hi=>h i (by omega)⟩
theorem rows_get (X:List C) (rows:List (List Bool)) (i:Nat):hOf ((0,some X) :: blks 1 (rows.map boolsC)) (1+i)=(rows[i]?).map fun a=>some (boolsC a):=by
 rw [hOf,upd,if_neg (by omega),hOf_blks,if_pos (by omega),show 1+i - 1=i by omega,List.getElem?_map,Option.map_map]
 rfl
theorem mq_rows {m n w : Nat} {tl : List (Nat × D)} {S : Ms} {rows : List (List Bool)} (hl : rows.length = n) (hm : m ≤ n + 1) (ht : TmOK (hOf ((0, some (rowsM 1 w n)) :: blks 1 (rows.map boolsC))) some S.hp [] S.tm tl)
 (h0:S.hp 0=some (some (rowsM 1 w n))) (hr:∀ i a,rows[i]? = some a→S.hp (1+i)=some (some (boolsC a))):Mq m some [] tl ((0,some (rowsM 1 w n)) :: blks 1 (rows.map boolsC)) S:=by
 have hk:∀ i,i<n→hOf ((0,some (rowsM 1 w n)) :: blks 1 (rows.map boolsC)) (1+i) ≠ none:=fun i hi=>by
  rw [rows_get,List.getElem?_eq_getElem (by omega)];simp
 refine ⟨ht,⟨?_,HpOK_blks fun i cs hi=>?_⟩,low_of fun i hi=>⟨rfl,?_⟩,?_⟩
 ·simp only [h0]
  exact ⟨by simp,rowsM_cm fun i hi=>⟨rfl,hk i hi⟩⟩
 ·rw [List.getElem?_map,Option.map_eq_some_iff] at hi
  obtain ⟨a,ha,rfl⟩:=hi
  exact ⟨1+i,rfl,by simp,_,hr i a ha,CMs.kf (boolsC_kf _)⟩
 ·rcases Nat.eq_zero_or_pos i with rfl | hp
  ·simp [hOf,upd]
  ·obtain ⟨j,rfl⟩:∃ j,i=1+j:=⟨i - 1,by omega⟩
   exact hk j (by omega)
 ·exact nodup_blks (A:=[(0,some (rowsM 1 w n))]) (g:=fun i=>1+i) (fun i _=>rfl) (fun i j _ _ h=>by omega) (by simp) (by simp;omega)
theorem RetOb.rows {m n w : Nat} {R : D → List (Option (List C)) → Prop} {hp : Hp} {rows : List (List Bool)} {v : Value} (hl : rows.length = n) (hm : m ≤ n + 1) (h0 : hp 0 = some (some (rowsM 1 w n))) (hr : ∀ i a, rows[i]? = some a → hp (1 + i) = some (some (boolsC a)))
 (hR:R (.c (.v v)) (hB w rows)):RetOb m R (.c (.v v)) hp:=by
 have hq:Mq m some [] [] ((0,some (rowsM 1 w n)) :: blks 1 (rows.map boolsC)) ⟨fun _=>none,hp,0⟩:=mq_rows hl hm trivial h0 hr
 refine RetOb.ofQ some [] (.c (.v v)) (hB w rows) ?_ hR (by simp [hB];omega)
 rw [hB_enum,hl]
 exact ⟨by simp [DM,CM],hq.2⟩
open CtG (labT ltrL lstT)
def bstr (l:List UInt8):ByteArray:=⟨l.toArray⟩
theorem bstr_app (a b:List UInt8):bstr a++bstr b=bstr (a++b):=by
 unfold bstr;rw [← List.append_toArray];exact ByteArray.ext (by simp)
def TabW (w : World) : Prop := Lib.TabIs Tryz.prog w "internal/strconv.uint64pow10" .u64 Lib.pow10Tab
def TabY (y:Yn):Prop:=∀ w:World,(∀ b,b<y.n→w.heap[b]? = y.o b)→TabW w
theorem var_lt {P:Program} {w:World} {n:String} {cs:Array Value} (h:w.var? P n=some cs):∃ g T fr,P.globalNamed n=some g∧w.heap[g]? = some (.cells cs T fr):=by
 unfold World.var? at h
 cases hg:P.globalNamed n with
 | none=>rw [hg] at h;simp at h
 | some g =>
  rw [hg] at h
  simp only [Option.bind_some] at h
  split at h
  ·rename_i c T fr e
   simp only [Option.some.injEq] at h
   subst h
   exact ⟨g,T,fr,rfl,e⟩
  ·cases h
theorem tabY_at {w:World} (h:TabW w):TabY (ynAt w):=fun w' hw=>by
 obtain ⟨g,T,fr,h1,h2⟩:=var_lt h
 have hlt:=lt_of_heap h2
 have h3:w'.heap[g]? = w.heap[g]? := hw g hlt
 show w'.var? _ _=_
 simp only [World.var?,h1,Option.bind_some,h3,h2]
theorem tabW_below {w w':World} (h:TabW w) (hb:RowKit.Below w.heap.size w w'):TabW w':=tabY_at h w' fun b hb'=>hb.block b hb'
theorem SimH.tab {I:Nat→Prop} {w:World} {s:Sg} {hp:Hp} (H:SimH I w s hp) (hT:TabY inferInstance):TabW w:=hT w H.yng.2.2
theorem vs_one {I:Nat→Prop} {w:World} {s:Sg} {vs:Array Value} {d:D} (h:RDs I w s vs [d]):∃ v,vs=#[v]∧RD I w s v d:=by
 obtain ⟨hsz,hrd⟩:=h
 rcases vs with ⟨l⟩
 match l,hsz with
 | [v],_=>exact ⟨v,rfl,hrd 0 (by simp) (by simp)⟩
theorem itoaD (hT:TabY inferInstance) (n:Int) (h0 : -9223372036854775808≤n) (h1:n≤9223372036854775807):DC Tryz.prog 110 [DI .i64 n] [] (fun r h=>r=DS (bstr (Lib.itoa n))∧h=[]) :=
 DC.ofBelow rfl fun I w s vs H hv=>by
  obtain ⟨v,rfl,hr⟩:=vs_one hv
  obtain ⟨rfl,_⟩:=rd_scalar hr
  refine (Tryz.strconv_Itoa n h0 h1 w (SimH.tab H hT)).mono ?_
  rintro e w' ⟨rfl,k,os,rfl⟩
  exact ⟨rfl,Lib.below_grow _ w (Nat.le_refl _) k os⟩
theorem decD (n:Nat) (hn:n<4611686018427387904):DC Tryz.prog 67 [DI .i64 n] [] (fun r h=>r=DS (bstr (Lib.itoa n))∧h=[]) :=
 DC.ofBelow rfl fun I w s vs H hv=>by
  obtain ⟨v,rfl,hr⟩:=vs_one hv
  obtain ⟨rfl,_⟩:=rd_scalar hr
  refine (CtG.dec_any n hn w).mono ?_
  rintro e w' ⟨rfl,hb⟩
  exact ⟨by rw [Lib.itoa_nonneg];rfl,hb⟩
theorem row_of {I:Nat→Prop} {w:World} {s:Sg} {v:Value} {xs:List Int} (h:RD I w s v (.c (isI xs))):∃ a cap,v = .slice a xs.length cap∧xs.length≤mx∧(xs=[]∨∃ b off,a=some ⟨b,off,none⟩∧I b∧∀ j,j<xs.length→w.cell? ⟨b,off+j,none⟩=some (.int .i64 (xs.getD j 0))) ∧
 ∀ (y':Yn) (I':Nat→Prop) (s':Sg),(∀ b,I b→I' b)→@RD y' I' w s' v (.c (isI xs)):=by
 cases h with
 | c _ _ h =>
  unfold isI at h ⊢
  generalize hL:(xs.map fun x=>[C.v (.int .i64 x)])=L at h
  have hlen:L.length=xs.length:=by rw [← hL];simp
  cases h with
  | isl0 _ a cap _ =>
   have:xs=[]:=List.eq_nil_of_length_eq_zero (by rw [← hlen];rfl)
   subst this
   exact ⟨a,cap,rfl,Nat.zero_le _,.inl rfl,fun y' I' s' _=>@RD.c y' I' w s' _ _ (@RC.isl0 y' I' w s' a cap 1)⟩
  | isl _ b off cap _ _ yv hI hl hc hr hcap =>
   have hval:∀ j (hj:j<xs.length),yv j 0 = .int .i64 (xs.getD j 0):=fun j hj=>by
    have h2:=hr j (by rw [hlen];exact hj) 0 (by subst hL;simp)
    have e:L[j]'(by rw [hlen];exact hj)=[C.v (.int .i64 xs[j])]:=by subst hL;simp
    have e2:(L[j]'(by rw [hlen];exact hj))[0]'(by rw [e];simp)=C.v (.int .i64 xs[j]):=by simp [e]
    rw [e2] at h2
    rw [(rd_scalar (.c _ _ h2)).1]
    simp [List.getD,List.getElem?_eq_getElem hj]
   have hcell:∀ j,j<xs.length→w.cell? ⟨b,off+j,none⟩=some (.int .i64 (xs.getD j 0)):=fun j hj=>by
    have h1:=hc j 0 (by rw [hlen];exact hj) (by omega)
    rw [Nat.mul_one,Nat.add_zero] at h1
    rw [h1,hval j hj]
   refine ⟨some ⟨b,off,none⟩,cap,by rw [hlen],by rw [← hlen];exact hcap.2,.inr ⟨b,off,rfl,hI,hcell⟩,fun y' I' s' hII=>?_⟩
   refine @RD.c y' I' w s' _ _ (@RC.isl y' I' w s' b off cap 1 L yv (hII b hI) hl hc (fun i hi j hj=>?_) hcap)
   have e:L[i]=[C.v (.int .i64 (xs[i]'(by omega)))]:=by subst hL;simp
   have hj0:j=0:=by rw [e] at hj;simpa using hj
   subst hj0
   have e2:(L[i])[0]'hj=C.v (.int .i64 (xs[i]'(by omega))):=by simp [e]
   rw [e2,hval i (by omega)]
   have e3:xs.getD i 0=xs[i]'(by omega):=by simp [List.getD,List.getElem?_eq_getElem (show i<xs.length by omega)]
   rw [e3]
   exact @RC.v y' I' w Sg0 _ rfl
theorem formatLabelsI (xs:List Int) (hl:xs.length≤1000000) (h:labs xs=true):DC Tryz.prog 60 [.c (isI xs)] [] (fun r h=>r=DS (bstr (labT xs))∧h=[]) :=
 DC.ofBelow rfl fun I w s vs H hv=>by
  obtain ⟨v,rfl,hr⟩:=vs_one hv
  obtain ⟨a,cap,rfl,hx,hcase,hre⟩:=row_of hr
  have hal:Calls Tryz.prog 68 #[.slice a xs.length cap] w fun e w'=>e = .returned (.bool true)∧RowKit.Below w.heap.size w w':=by
   have hd:=@CtR.areLabels (ynAt w) xs (by have:=mx_eq;omega)
   rw [h] at hd
   exact DC.calls hd fun s'=>@RDs.one (ynAt w) _ _ _ _ _ (hre (ynAt w) _ s' H.imm)
  rcases hcase with rfl | ⟨b,off,rfl,hI,hc⟩
  ·exact (CtG.fmtLab_none a cap w hal).mono fun e w' ⟨h1,h2⟩=>⟨h1,h2⟩
  ·have hlab:∀ z ∈ xs,0≤z∧z≤3:=fun z hz=>by
    simp only [labs,List.all_eq_true,Bool.and_eq_true,decide_eq_true_eq] at h
    exact h z hz
   refine (CtG.fmtLab_any b off xs.length cap xs w (by omega) (Nat.le_refl _) (H.imm b hI) hlab hc hal).mono fun e w' ⟨h1,h2⟩=>⟨?_,h2⟩
   rw [h1,List.take_length];rfl
open CtL (In Cd kindsOf topOf fOK inOK codeOK)
open CtG (labT ltrL lstT)
def nmL:List (List UInt8):=[[99,111,110,115,116],[103,101,116],[112,117,116],[108,111,97,100],[115,116,111,114,101],[98,105,110],[115,101,108,101,99,116],[106,117,109,112],[122,101,114,111],[108,111,111,112],[114,101,108,101,97,115,101],[102,101,110,99,101],[104,97,108,116]]
def strD (l:List (List UInt8)):C := .isl 1 (l.map fun s=>[.v (.string (bstr s))])
theorem opWordsI:DC Tryz.prog 25 [] [] (fun r h=>r = .c (strD nmL)∧h=[]):=by
 have hmx:=mx_eq
 refine dcZ Tryz.func25 ?_
 simp only [go_sem]
 iterate 3 ((try (refine drvZ Tryz.func25 ?_;simp only [go_sem]));((with_reducible and_intros)<;>try exact sd))
 refine RetOb.ofQ (fun _=>none) [64] (.c (strD nmL)) [] ?_ ⟨rfl,rfl⟩ (by simp)
 simp [strD,nmL,bstr,enumL,DM,DMs,CM,CMs,HpOK,LowOK,hOf,upd,kf]
theorem l6NamesS:DC Tryz.prog 52 [] [] (fun r h=>r = .c (strD ([] :: nmL))∧h=[]):=by
 have hmx:=mx_eq
 refine dcZ Tryz.func52 ?_
 simp only [go_sem]
 iterate 3 ((try (refine drvZ Tryz.func52 ?_;simp only [go_sem]));((with_reducible and_intros)<;>try exact sd))
 refine RetOb.ofQ (fun _=>none) [64] (.c (strD ([] :: nmL))) [] ?_ ⟨rfl,rfl⟩ (by simp)
 simp [strD,nmL,bstr,enumL,DM,DMs,CM,CMs,HpOK,LowOK,hOf,upd,kf]
def nmT (op:Int):List UInt8:=nmL.getD (op - 1).toNat []
def narg (op:Int):Nat:=(sls op).size
def prT (x:In) (k:Nat):List UInt8:=(List.range k).flatMap fun i=>32 :: Lib.itoa ([x.a,x.b,x.c,x.d].getD i 0)
def lineT (x:In):List UInt8:=nmT x.op++prT x (narg x.op)
theorem prT_succ (x:In) (k:Nat):prT x (k+1)=prT x k++(32 :: Lib.itoa ([x.a,x.b,x.c,x.d].getD k 0)):=by
 unfold prT
 rw [List.range_succ,List.flatMap_append]
 simp
theorem bstr_size (l:List UInt8):(bstr l).size=l.length:=by simp [bstr,ByteArray.size]
theorem b1 (x:UInt8):(⟨#[x]⟩:ByteArray)=bstr [x]:=rfl
theorem itoa_len {n:Int} (h:0≤n∧n≤999):(Lib.itoa n).length≤3:=by
 obtain ⟨m,rfl⟩:∃ m:Nat,n=m:=⟨n.toNat,by omega⟩
 rw [Lib.itoa_nonneg]
 have one:∀ k,k<10→(Lib.decDigits k).length=1:=fun k hk=>by rw [Lib.decDigits_one hk];rfl
 have two:∀ k,k<100→(Lib.decDigits k).length≤2:=fun k hk=>by
  rcases Nat.lt_or_ge k 10 with q | q
  ·have:=one k q;omega
  ·rw [CtG.decStep q,List.length_append,one (k / 10) (by omega)];simp
 rcases Nat.lt_or_ge m 10 with q | q
 ·have:=one m q;omega
 ·have:=two (m / 10) (by omega)
  rw [CtG.decStep q,List.length_append];simp;omega
def InS (x:In):Prop:=(1≤x.op∧x.op≤13)∧∀ n ∈ [x.a,x.b,x.c,x.d],0≤n∧n≤999
theorem InS.at {x:In} (h:InS x) (i:Nat):0≤[x.a,x.b,x.c,x.d].getD i 0∧[x.a,x.b,x.c,x.d].getD i 0≤999:=by
 rw [List.getD_eq_getElem?_getD]
 cases hx:[x.a,x.b,x.c,x.d][i]? with
 | none=>simp
 | some v=>exact h.2 v (List.mem_of_getElem? hx)
theorem prT_len {x : In} (h : InS x) : ∀ k, (prT x k).length ≤ k * 4
 | 0=>by simp [prT]
 | k+1=>by
  have:=prT_len h k
  have:=itoa_len (h.at k)
  rw [prT_succ,List.length_append,List.length_cons];omega
theorem nm_at {op:Int} (h:1≤op∧op≤13):nmL[(op - 1).toNat]? = some (nmT op)∧(nmT op).length≤10:=by
 have key:op=1∨op=2∨op=3∨op=4∨op=5∨op=6∨op=7∨op=8∨op=9∨op=10∨op=11∨op=12∨op=13:=by omega
 rcases key with rfl | rfl | rfl | rfl | rfl | rfl | rfl | rfl | rfl | rfl | rfl | rfl | rfl<;>exact ⟨rfl,by decide⟩
theorem narg_lt (op:Int) (i:Nat) (h:i<4):(i<narg op ↔ ltr ((kindsOf op).getD i 0) ≠ 45):=by
 rw [narg,sls_len op i h]
 have h6:=kinds_le op i
 generalize (kindsOf op).getD i 0=k at *
 have:k=0∨k=1∨k=2∨k=3∨k=4∨k=5∨k=6:=by omega
 rcases this with rfl | rfl | rfl | rfl | rfl | rfl | rfl<;>decide
theorem narg_le (op:Int):narg op≤4:=by
 unfold narg sls kindsOf
 repeat' split
 all_goals decide
theorem textI (hT:TabY inferInstance) (x:In) (hx:InS x):DC Tryz.prog 93 [.agg (inX x)] [] (fun r h=>r=DS (bstr (lineT x))∧h=[]):=by
 have hmx:=mx_eq
 have how:=opWordsI
 have hsh:=shapeI x.op hx.1
 have hfi:=fieldsI x
 have hit:=fun (n:Int) (h:0≤n∧n≤999)=>itoaD hT n (by omega) (by omega)
 have hat:=hx.at
 have hpl:=prT_len hx
 obtain ⟨hnm,hnl⟩:=nm_at hx.1
 have hna:=narg_le x.op
 have ho:=hx.1
 have ret:∀ (l:List UInt8) (hp:Hp),l=lineT x→RetOb 0 (fun r h=>r=DS (bstr (lineT x))∧h=[]) (DS (bstr l)) hp:=fun l hp e=>by subst e;exact RetOb.plain (d:=DS _) ⟨rfl,rfl⟩ rfl
 generalize hR:(fun (r:D) (h:List (Option (List C)))=>r=DS (bstr (lineT x))∧h=[])=R at ret ⊢
 obtain ⟨op,a,b,c',d⟩:=x
 simp only [inX,strD] at hsh hfi how hnm hnl hna ho hat hpl ⊢
 have hnm2:(nmL.map fun s=>[C.v (.string (bstr s))])[(op - 1).toNat]? = some [.v (.string (bstr (nmT op)))]:=by rw [List.getElem?_map,hnm];rfl
 have hlt:(op - 1).toNat<nmL.length:=(List.getElem?_eq_some_iff.1 hnm).1
 refine dcZ Tryz.func93 ?_
 simp only [go_sem]
 iterate 6 ((try (refine drvZ Tryz.func93 ?_;simp only [go_sem,hnm2]));((with_reducible and_intros)<;>try exact sd);(try first | refine XK.p how ok25 ?_ | refine XK.gp how ok25 ?_ | refine XK.p hfi ok71 ?_ | refine XK.gp hfi ok71 ?_))
 refine Go.loopQ (fun i : Nat => [(1, .c (.ptr 0 0)), (3, DS (bstr (nmT op ++ prT ⟨op, a, b, c', d⟩ (min i (narg op))))), (13, .c (.isl 1 [[I64 a], [I64 b], [I64 c'], [I64 d]])), (14, DI .i64 4), (15, DI .i64 i)]) (fun _ => [(0, some [I64 op, I64 a, I64 b, I64 c', I64 d])])
  2048 (fun i=>i≤4) (fun i=>4 - i) ?_ 0 some [] _ (Nat.zero_le _) ?_
 ·intro i hi again
  rcases Nat.lt_or_ge i 4 with hlt4 | hge
  ·have hx:[[I64 a],[I64 b],[I64 c'],[I64 d]][i]? = some [I64 ([a,b,c',d].getD i 0)]:=by
    have:i=0∨i=1∨i=2∨i=3:=by omega
    rcases this with rfl | rfl | rfl | rfl<;>rfl
   have hlt':(i:Int)<4:=by omega
   have hlt2:i < [[I64 a],[I64 b],[I64 c'],[I64 d]].length:=hlt4
   have hsz:(shp op).size=4:=rfl
   have hsa:=shp_at op i hlt4
   have hnl4:=narg_lt op i hlt4
   have hps:=prT_succ ⟨op,a,b,c',d⟩ i
   have hbd:=hat i
   have hit:=hit _ hbd
   have hil:=itoa_len hbd
   have hpi:=hpl i
   simp only at hps hbd hit hil
   generalize ltr ((kindsOf op).getD i 0)=u at *
   generalize [a,b,c',d].getD i 0=n at *
   generalize [[I64 a],[I64 b],[I64 c'],[I64 d]]=fl at *
   by_cases hin:i<narg op
   ·have hu:((u.toNat:Int) != 45)=true:=by
     have:=hnl4.1 hin
     rw [bne_iff_ne];intro e;apply this
     have:u.toNat=45:=by omega
     exact UInt8.toNat_inj.1 this
    have em:min i (narg op)=i:=by omega
    have em2:min (i+1) (narg op)=i+1:=by omega
    have hfin:bstr (nmT op++prT ⟨op,a,b,c',d⟩ i)++(bstr [32]++bstr (Lib.itoa n))=bstr (nmT op++prT ⟨op,a,b,c',d⟩ (i+1)):=by rw [bstr_app,bstr_app,hps];simp
    have hz1:(((nmT op++prT ⟨op,a,b,c',d⟩ i).length:Int)+(1+((Lib.itoa n).length:Int))≤9223372036854775807)=True:=eq_true (by rw [List.length_append];omega)
    refine drvL Tryz.func93 ?_
    simp only [go_sem,em,hlt']
    iterate 8 ((try (refine drvZ Tryz.func93 ?_;simp only [go_sem,hx,hlt',hlt2,hlt4,hsz,hsa,hu,em,b1,bstr_size,hz1]));((with_reducible and_intros)<;>try exact sd);(try first | refine XK.p hsh ok70 ?_ | refine XK.gp hsh ok70 ?_ | refine XK.p hit ok110 ?_ | refine XK.gp hit ok110 ?_))
    refine again (i+1) some [] _ hlt4 (show 4 - (i+1)<4 - i by omega) ?_
    simp only [go_sem,TmOK,DM,DMs,CM,CMs,forall_eq,exists_eq_left,Mq,HpOK,LowOK,em2,hfin]
    try simp
   ·have hu:((u.toNat:Int) != 45)=false:=by
     have:¬ u ≠ 45:=fun h=>hin (hnl4.2 h)
     have:u=45:=by simpa using this
     subst this;rfl
    have em:min i (narg op)=narg op:=by omega
    have em2:min (i+1) (narg op)=narg op:=by omega
    refine drvL Tryz.func93 ?_
    simp only [go_sem,em,hlt']
    iterate 8 ((try (refine drvZ Tryz.func93 ?_;simp only [go_sem,hx,hlt',hlt2,hlt4,hsz,hsa,hu,em,b1,bstr_size]));((with_reducible and_intros)<;>try exact sd);(try first | refine XK.p hsh ok70 ?_ | refine XK.gp hsh ok70 ?_))
    refine again (i+1) some [] _ hlt4 (show 4 - (i+1)<4 - i by omega) ?_
    simp only [go_sem,TmOK,DM,DMs,CM,CMs,forall_eq,exists_eq_left,Mq,HpOK,LowOK,em2]
    try simp
  ·have hi4:i=4:=by omega
   subst hi4
   have em:min 4 (narg op)=narg op:=by omega
   clear again
   refine drvL Tryz.func93 ?_
   simp only [go_sem,em,Int.reduceLT]
   iterate 5 ((try (refine drvZ Tryz.func93 ?_;simp only [go_sem,em,Int.reduceLT]));((with_reducible and_intros)<;>try exact sd))
   exact ret _ _ rfl
 ·simp only [go_sem,TmOK,DM,DMs,CM,CMs,forall_eq,exists_eq_left,Mq,HpOK,LowOK]
  simp [prT]
open CtL (In Cd kindsOf topOf fOK inOK codeOK)
open CtG (labT ltrL lstT)
theorem lineT_len {x:In} (h:InS x):(lineT x).length≤26:=by
 have h1:=prT_len h (narg x.op)
 have h2:=narg_le x.op
 have h3:=(nm_at h.1).2
 rw [lineT,List.length_append];omega
def hltI:In:=⟨13,0,0,0,0⟩
theorem hltI_s:InS hltI:=⟨by decide,by decide⟩
def listT (l:List In):List UInt8:=l.flatMap fun x=>lineT x++[10]
theorem lst_eq (l:List In):lstT (fun k=>lineT (l.getD k hltI)) l.length=listT l:=by
 unfold lstT listT
 have h:(List.range l.length).map (fun k=>l.getD k hltI)=l:=by
  apply List.ext_getElem
  ·simp
  ·intro i h1 h2
   simp [List.getD,List.getElem?_eq_getElem h2]
 conv=>rhs;rw [← h]
 rw [List.flatMap_map]
theorem agg3 {I:Nat→Prop} {w:World} {s:Sg} {v:Value} {a b c:C} (h:RD I w s v (.agg [a,b,c])):∃ x y z,v = .agg #[x,y,z]∧RC I w s x a∧RC I w s y b∧RC I w s z c:=by
 cases h with
 | agg vs _ hl hr =>
  rcases vs with ⟨l⟩
  match l,hl with
  | [x,y,z],hl=>exact ⟨x,y,z,rfl,hr 0 (by simp) (by simp),hr 1 (by simp) (by simp),hr 2 (by simp) (by simp)⟩
theorem listTextI (hT:TabY inferInstance) (c:Cd) (hl:c.list.length≤1000000) (hne:1≤c.list.length) (hs:∀ x ∈ c.list,InS x):DC Tryz.prog 61 [.agg (cdC c)] [] (fun r h=>r=DS (bstr (listT c.list))∧h=[]) :=
 DC.ofBelow rfl fun I w s vs H hv=>by
  obtain ⟨v,rfl,hr⟩:=vs_one hv
  obtain ⟨x,y,z,rfl,_,_,hz⟩:=agg3 hr
  have hw:=SimH.tab H hT
  have hall:∀ k,InS (c.list.getD k hltI):=fun k=>by
   rw [List.getD_eq_getElem?_getD]
   cases hx:c.list[k]? with
   | none=>exact hltI_s
   | some u=>exact hs u (List.mem_of_getElem? hx)
  generalize hL:c.list.map inX=L at hz
  have hlen:L.length=c.list.length:=by rw [← hL];simp
  cases hz with
  | isl0 _ a cap _=>simp at hlen;omega
  | isl _ b off cap _ _ yv hI hl5 hc hrc hcap =>
   rw [hlen]
   let f:Nat→Nat→Int:=fun k j=>let u:=c.list.getD k hltI;[u.op,u.a,u.b,u.c,u.d].getD j 0
   have hcell:∀ k j,k<c.list.length→j<5→w.cell? ⟨b,off+(k * 5+j),none⟩=some (.int .i64 (f k j)):=fun k j hk hj=>by
    have h1:=hc k j (by omega) hj
    have hLk:L[k]'(by omega)=inX (c.list.getD k hltI):=by
     subst hL
     simp [List.getD,List.getElem?_eq_getElem hk]
    have h2:=hrc k (by omega) j (by rw [hLk];simpa [inX] using hj)
    have e2:(L[k]'(by omega))[j]'(by rw [hLk];simpa [inX] using hj)=C.v (.int .i64 (f k j)):=by
     simp only [hLk]
     have:j=0∨j=1∨j=2∨j=3∨j=4:=by omega
     rcases this with rfl | rfl | rfl | rfl | rfl<;>rfl
    rw [e2] at h2
    rw [show off+(k * 5+j)=off+k * 5+j by omega,h1,(rd_scalar (.c _ _ h2)).1]
   have key:=CtG.listText_any x y b off c.list.length cap f (fun k=>lineT (c.list.getD k hltI)) w hl (H.imm b hI) (fun k=>by have:=lineT_len (hall k);omega) hcell fun k hk w' hb'=>by
    have hd:=@textI (ynAt w') (tabY_at (tabW_below hw hb')) (c.list.getD k hltI) (hall k)
    exact DC.calls hd fun s'=>rds_ints [(c.list.getD k hltI).op,(c.list.getD k hltI).a,(c.list.getD k hltI).b,(c.list.getD k hltI).c,(c.list.getD k hltI).d]
   rw [lst_eq] at key
   exact key
end Go.Proofs.YtfkhahkclgejnaaGreatDoor.CtD
