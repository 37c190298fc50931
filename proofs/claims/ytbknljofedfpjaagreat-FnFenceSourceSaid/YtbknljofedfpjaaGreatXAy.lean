/- Contracts of functions of the program, one behind the other, as plain data: what each call returns and which blocks it leaves. -/
import Derived.Test.YtbknljofedfpjaaGreatXFacts
import Derived.Test.YtbknljofedfpjaaGreatXAi
import Derived.Test.YtbknljofedfpjaaGreatXAk
import Derived.Test.YtbknljofedfpjaaGreatXAm
import Derived.Test.YtbknljofedfpjaaGreatXAo
import Derived.Test.YtbknljofedfpjaaGreatXAq
import Derived.Test.YtbknljofedfpjaaGreatXAr
import Derived.Test.YtbknljofedfpjaaGreatXAu
import Derived.Test.YtbknljofedfpjaaGreatXAv
import Derived.Test.YtbknljofedfpjaaGreatXAw
import Derived.Test.YtbknljofedfpjaaGreatXAx
import Derived.Test.YtbknljofedfpjaaGreatXAl
import Derived.Test.YtbknljofedfpjaaGreatXAp
import Derived.Test.YtbknljofedfpjaaGreatXAs
set_option linter.unusedVariables false
set_option linter.unusedSimpArgs false
set_option linter.unusedSectionVars false
set_option maxHeartbeats 16000000
set_option maxRecDepth 100000
namespace Go.Proofs.YtbknljofedfpjaaGreat.CtD
open Go Go.CT CtF CtR
variable [Yn]
open CtL (In Cd kindsOf)
theorem sls_size (op:Int):(sls op).size≤4:=by
 unfold sls kindsOf
 repeat' split
 all_goals decide
def rdl2 (bs:List Int) (n k:Nat) (LC:List C) (h:List (Option (List C))):Prop:=∃ n':Nat,n≤n'∧n'≤n+k∧h=[some (rdr bs n'),some LC]
def rnR (bs:List Int) (n:Nat) (LC:List C) (r:D) (h:List (Option (List C))):Prop:=∃ x:In,r = .agg (inX x)∧rdl2 bs n 50 LC h
theorem l6RandomL (bs : List Int) (n : Nat) (vs ar : List Int) (LC : List C) (m at_ N : Nat) (hb : Fits .u8 bs) (hl : bs.length ≤ 2000) (hn : n ≤ 274877906944) (hv : 1 ≤ vs.length ∧ vs.length ≤ 13) (ha : ar.length ≤ 2) (hat : at_ + 1 < N) (hN : N ≤ 13) (hLC : ∀ c ∈ LC, kf c = true) :
 DC Tryz.prog 143 [.c (.ptr 0 0),.agg [isI vs,isI ar,.msl 1 5 0 m],DI .i64 at_,DI .i64 N] [some (rdr bs n),some LC] (rnR bs n LC):=by
 have hmx:=mx_eq
 have hval:=fun n h=>l3Value bs n hb hl h
 have hnum:=num bs n [1,2,3,6,2,7,9,4,5,11,8,12] hb hl (by omega) (by decide) (by decide)
 generalize hR:rnR bs n LC=R
 refine dcZ Tryz.func143 ?_
 simp only [go_sem,rdr]
 iterate 2 ((try (refine drvZ Tryz.func143 ?_;simp only [go_sem,rdr]));((with_reducible and_intros)<;>try exact sd))
 refine XK.callG [0,194] (numO bs n [1,2,3,6,2,7,9,4,5,11,8,12] hb hl (by omega) (by decide) (by decide)) ok73 (hhp2 rfl rfl) (hbT ()) (fun d h' ⟨_,_,_,e⟩=>by subst e;simp) ?_
 rintro _ _ ⟨o,rfl,ho,rfl⟩ _
 have ho2:1≤o∧o≤13:=by simp at ho;omega
 have hfd:=fun (op:Int) h=>l6FieldsS op h
 have cs:(ar.length=0∧(o=4∨o=5))∨(¬ (ar.length=0∧(o=4∨o=5))):=Classical.em _
 have fin:∀ (op:Int),(1≤op∧op≤13)→(ar.length=0→op ≠ 4∧op ≠ 5)→True:=fun _ _ _=>trivial
 by_cases h0:ar.length=0
 ·have e0:((ar.length:Int) == 0)=true:=by simp [h0]
  by_cases h4:o=4
  ·subst h4
   have hfo:=hfd 2 (by omega)
   iterate 5 ((try (refine drvZ Tryz.func143 ?_;simp only [go_sem,rdr,e0]));((with_reducible and_intros)<;>try exact sd);(try first | refine XK.p hfo ok140 ?_ | refine XK.gp hfo ok140 ?_))
   refine Go.loopQ (fun x : Nat × Nat × List Int × Int => [(0, .c (.ptr 0 0)), (2, DI .i64 at_), (3, DI .i64 N), (5, .c (.ptr 2 0)), (8, .c (.ptr 66 0)), (9, .c (.ptr 386 0)), (10, DS (sls x.2.2.2)), (11, .c (.msl 20 1 0 4)), (12, DI .i64 x.1)])
    (fun x=>[(0,some (rdr bs x.2.1)),(1,some LC),(2,some [isI vs,isI ar,.msl 1 5 0 m]),(20,some (x.2.2.1.map I64)),(66,some [I64 0,I64 0,I64 0,I64 0,I64 0]),(386,some [I64 x.2.2.2,I64 0,I64 0,I64 0,I64 0])])
    8192 (fun x=>x.1≤4∧n+1≤x.2.1∧x.2.1≤n+1+x.1∧x.2.2.1.length=4∧(1≤x.2.2.2∧x.2.2.2≤13)∧True) (fun x=>4 - x.1) ?_ (0,n+1,[0,0,0,0],2) (fun j=>if j=20 then some 1794 else some j) [] _ ⟨by simp,by simp,by simp,rfl,by simp,trivial⟩ ?_
   ·rintro ⟨k,pos,pt,op⟩ ⟨hk,hp1,hp2,hpt,hop,hoa⟩ again
    simp only at hk hp1 hp2 hpt hop again ⊢
    have hsz:=sls_size op
    have hpl:(pt.map I64).length=4:=by rw [List.length_map];exact hpt
    by_cases hlk:k<(sls op).size
    ·have hk0:=(sls_len op k (by omega)).1 hlk
     have hat:=sls_at op k hk0
     have hk6:=kinds_le op k
     generalize (kindsOf op).getD k 0=kd at *
     have hkc:kd=1∨kd=2∨kd=3∨kd=4∨kd=5∨kd=6:=by omega
     have hat:(((sls op).data.toList.getD k 0).toNat:Int)=(((slt kd).toNat:Nat):Int):=by rw [hat]
     rcases hkc with rfl | rfl | rfl | rfl | rfl | rfl
     ·rw [show (((slt 1).toNat:Nat):Int)=114 from rfl] at hat
      refine drvL Tryz.func143 ?_
      simp only [go_sem,rdr,hlk]
      iterate 8 ((try (refine drvZ Tryz.func143 ?_;simp only [go_sem,rdr,hlk,hat]));((with_reducible and_intros)<;>try exact sd))
      refine XK.callG [0] (pick bs pos 3 hb hl (by omega) (by simp only [InK];omega)) ok71 (hhp_one rfl) (hbT ()) (fun d h' ⟨v,_,_,e⟩=>by subst e;simp) ?_
      rintro _ _ ⟨v,rfl,hv,rfl⟩ _
      iterate 3 ((try (refine drvZ Tryz.func143 ?_;simp only [go_sem,rdr,hlk,hpl,set_I]));((with_reducible and_intros)<;>try exact sd))
      refine again (k+1,(pos+1),pt.set k v,op) some [] _ ⟨(show k+1≤4 by omega),(show n+1≤(pos+1) by omega),(show (pos+1)≤n+1+(k+1) by omega),by rw [List.length_set];exact hpt,hop,hoa⟩ (show 4 - (k+1)<4 - k by omega) ?_
      simp only [go_sem,TmOK,DM,DMs,CM,CMs,forall_eq,exists_eq_left,Mq,HpOK,LowOK,rdr,set_I]
      simp [-List.map_set,CMs_I,set_I]
      try exact CMs.kf hLC
     ·rw [show (((slt 2).toNat:Nat):Int)=99 from rfl] at hat
      refine drvL Tryz.func143 ?_
      simp only [go_sem,rdr,hlk]
      iterate 8 ((try (refine drvZ Tryz.func143 ?_;simp only [go_sem,rdr,hlk,hat]));((with_reducible and_intros)<;>try exact sd))
      refine XK.callG [0] (hval pos (by omega)) ok87 (hhp_one rfl) (hbT ()) (fun d h' ⟨_,_,_,_,_,_,e⟩=>by subst e;simp) ?_
      rintro _ _ ⟨v,rfl,hv,pos2,hp1,hp2,rfl⟩ _
      iterate 3 ((try (refine drvZ Tryz.func143 ?_;simp only [go_sem,rdr,hlk,hpl,set_I]));((with_reducible and_intros)<;>try exact sd))
      refine again (k+1,pos2,pt.set k v,op) some [] _ ⟨(show k+1≤4 by omega),(show n+1≤pos2 by omega),(show pos2≤n+1+(k+1) by omega),by rw [List.length_set];exact hpt,hop,hoa⟩ (show 4 - (k+1)<4 - k by omega) ?_
      simp only [go_sem,TmOK,DM,DMs,CM,CMs,forall_eq,exists_eq_left,Mq,HpOK,LowOK,rdr,set_I]
      simp [-List.map_set,CMs_I,set_I]
      try exact CMs.kf hLC
     ·rw [show (((slt 3).toNat:Nat):Int)=118 from rfl] at hat
      refine drvL Tryz.func143 ?_
      simp only [go_sem,rdr,hlk]
      iterate 8 ((try (refine drvZ Tryz.func143 ?_;simp only [go_sem,rdr,hlk,hat]));((with_reducible and_intros)<;>try exact sd))
      refine XK.callG [0] (pick bs pos vs.length hb hl (by omega) (by simp only [InK];omega)) ok71 (hhp_one rfl) (hbT ()) (fun d h' ⟨v,_,_,e⟩=>by subst e;simp) ?_
      rintro _ _ ⟨v,rfl,hv,rfl⟩ _
      iterate 3 ((try (refine drvZ Tryz.func143 ?_;simp only [go_sem,rdr,hlk,hpl,set_I]));((with_reducible and_intros)<;>try exact sd))
      refine again (k+1,(pos+1),pt.set k v,op) some [] _ ⟨(show k+1≤4 by omega),(show n+1≤(pos+1) by omega),(show (pos+1)≤n+1+(k+1) by omega),by rw [List.length_set];exact hpt,hop,hoa⟩ (show 4 - (k+1)<4 - k by omega) ?_
      simp only [go_sem,TmOK,DM,DMs,CM,CMs,forall_eq,exists_eq_left,Mq,HpOK,LowOK,rdr,set_I]
      simp [-List.map_set,CMs_I,set_I]
      try exact CMs.kf hLC
     ·rw [show (((slt 4).toNat:Nat):Int)=97 from rfl] at hat
      refine drvL Tryz.func143 ?_
      simp only [go_sem,rdr,hlk]
      iterate 8 ((try (refine drvZ Tryz.func143 ?_;simp only [go_sem,rdr,hlk,hat]));((with_reducible and_intros)<;>try exact sd))
      refine XK.callG [0] (pick bs pos ar.length hb hl (by omega) (by simp only [InK];omega)) ok71 (hhp_one rfl) (hbT ()) (fun d h' ⟨v,_,_,e⟩=>by subst e;simp) ?_
      rintro _ _ ⟨v,rfl,hv,rfl⟩ _
      iterate 3 ((try (refine drvZ Tryz.func143 ?_;simp only [go_sem,rdr,hlk,hpl,set_I]));((with_reducible and_intros)<;>try exact sd))
      refine again (k+1,(pos+1),pt.set k v,op) some [] _ ⟨(show k+1≤4 by omega),(show n+1≤(pos+1) by omega),(show (pos+1)≤n+1+(k+1) by omega),by rw [List.length_set];exact hpt,hop,hoa⟩ (show 4 - (k+1)<4 - k by omega) ?_
      simp only [go_sem,TmOK,DM,DMs,CM,CMs,forall_eq,exists_eq_left,Mq,HpOK,LowOK,rdr,set_I]
      simp [-List.map_set,CMs_I,set_I]
      try exact CMs.kf hLC
     ·rw [show (((slt 5).toNat:Nat):Int)=111 from rfl] at hat
      refine drvL Tryz.func143 ?_
      simp only [go_sem,rdr,hlk]
      iterate 8 ((try (refine drvZ Tryz.func143 ?_;simp only [go_sem,rdr,hlk,hat]));((with_reducible and_intros)<;>try exact sd))
      refine XK.callG [0] (pick bs pos 7 hb hl (by omega) (by simp only [InK];omega)) ok71 (hhp_one rfl) (hbT ()) (fun d h' ⟨v,_,_,e⟩=>by subst e;simp) ?_
      rintro _ _ ⟨v,rfl,hv,rfl⟩ _
      iterate 3 ((try (refine drvZ Tryz.func143 ?_;simp only [go_sem,rdr,hlk,hpl,set_I]));((with_reducible and_intros)<;>try exact sd))
      refine again (k+1,(pos+1),pt.set k (4+v),op) some [] _ ⟨(show k+1≤4 by omega),(show n+1≤(pos+1) by omega),(show (pos+1)≤n+1+(k+1) by omega),by rw [List.length_set];exact hpt,hop,hoa⟩ (show 4 - (k+1)<4 - k by omega) ?_
      simp only [go_sem,TmOK,DM,DMs,CM,CMs,forall_eq,exists_eq_left,Mq,HpOK,LowOK,rdr,set_I]
      simp [-List.map_set,CMs_I,set_I]
      try exact CMs.kf hLC
     ·rw [show (((slt 6).toNat:Nat):Int)=116 from rfl] at hat
      refine drvL Tryz.func143 ?_
      simp only [go_sem,rdr,hlk]
      iterate 8 ((try (refine drvZ Tryz.func143 ?_;simp only [go_sem,rdr,hlk,hat]));((with_reducible and_intros)<;>try exact sd))
      refine XK.callG [0] (pick bs pos ((N:Int) - at_ - 1) hb hl (by omega) (by simp only [InK];omega)) ok71 (hhp_one rfl) (hbT ()) (fun d h' ⟨v,_,_,e⟩=>by subst e;simp) ?_
      rintro _ _ ⟨v,rfl,hv,rfl⟩ _
      iterate 3 ((try (refine drvZ Tryz.func143 ?_;simp only [go_sem,rdr,hlk,hpl,set_I]));((with_reducible and_intros)<;>try exact sd))
      refine again (k+1,(pos+1),pt.set k ((at_:Int)+1+v),op) some [] _ ⟨(show k+1≤4 by omega),(show n+1≤(pos+1) by omega),(show (pos+1)≤n+1+(k+1) by omega),by rw [List.length_set];exact hpt,hop,hoa⟩ (show 4 - (k+1)<4 - k by omega) ?_
      simp only [go_sem,TmOK,DM,DMs,CM,CMs,forall_eq,exists_eq_left,Mq,HpOK,LowOK,rdr,set_I]
      simp [-List.map_set,CMs_I,set_I]
      try exact CMs.kf hLC
    ·clear again
     match pt,hpt with
     | [p0,p1,p2,p3],_ =>
      refine drvL Tryz.func143 ?_
      simp only [go_sem,rdr,hlk]
      iterate 5 ((try (refine drvZ Tryz.func143 ?_;simp only [go_sem,rdr,hlk]));((with_reducible and_intros)<;>try exact sd))
      refine RetOb.ofQ (fun j=>if j<2 then some j else none) [] (.agg (inX ⟨op,p0,p1,p2,p3⟩)) [some (rdr bs pos),some LC] ?_ (by rw [← hR];exact ⟨_,rfl,pos,by omega,by omega,rfl⟩) (by simp)
      simp [inX,enumL,hOf,DM,DMs,CM,CMs,HpOK,LowOK,upd,rdr,kf]
      try exact CMs.kf hLC
   ·simp only [go_sem,TmOK,DM,DMs,CM,CMs,forall_eq,exists_eq_left,Mq,HpOK,LowOK,rdr]
    simp [CMs,hOf,hpL]
    try exact CMs.kf hLC
  ·by_cases h5:o=5
   ·subst h5
    have hfo:=hfd 2 (by omega)
    iterate 5 ((try (refine drvZ Tryz.func143 ?_;simp only [go_sem,rdr,e0]));((with_reducible and_intros)<;>try exact sd);(try first | refine XK.p hfo ok140 ?_ | refine XK.gp hfo ok140 ?_))
    refine Go.loopQ (fun x : Nat × Nat × List Int × Int => [(0, .c (.ptr 0 0)), (2, DI .i64 at_), (3, DI .i64 N), (5, .c (.ptr 2 0)), (8, .c (.ptr 66 0)), (9, .c (.ptr 386 0)), (10, DS (sls x.2.2.2)), (11, .c (.msl 20 1 0 4)), (12, DI .i64 x.1)])
     (fun x=>[(0,some (rdr bs x.2.1)),(1,some LC),(2,some [isI vs,isI ar,.msl 1 5 0 m]),(20,some (x.2.2.1.map I64)),(66,some [I64 0,I64 0,I64 0,I64 0,I64 0]),(386,some [I64 x.2.2.2,I64 0,I64 0,I64 0,I64 0])])
     8192 (fun x=>x.1≤4∧n+1≤x.2.1∧x.2.1≤n+1+x.1∧x.2.2.1.length=4∧(1≤x.2.2.2∧x.2.2.2≤13)∧True) (fun x=>4 - x.1) ?_ (0,n+1,[0,0,0,0],2) (fun j=>if j=20 then some 1794 else some j) [] _ ⟨by simp,by simp,by simp,rfl,by simp,trivial⟩ ?_
    ·rintro ⟨k,pos,pt,op⟩ ⟨hk,hp1,hp2,hpt,hop,hoa⟩ again
     simp only at hk hp1 hp2 hpt hop again ⊢
     have hsz:=sls_size op
     have hpl:(pt.map I64).length=4:=by rw [List.length_map];exact hpt
     by_cases hlk:k<(sls op).size
     ·have hk0:=(sls_len op k (by omega)).1 hlk
      have hat:=sls_at op k hk0
      have hk6:=kinds_le op k
      generalize (kindsOf op).getD k 0=kd at *
      have hkc:kd=1∨kd=2∨kd=3∨kd=4∨kd=5∨kd=6:=by omega
      have hat:(((sls op).data.toList.getD k 0).toNat:Int)=(((slt kd).toNat:Nat):Int):=by rw [hat]
      rcases hkc with rfl | rfl | rfl | rfl | rfl | rfl
      ·rw [show (((slt 1).toNat:Nat):Int)=114 from rfl] at hat
       refine drvL Tryz.func143 ?_
       simp only [go_sem,rdr,hlk]
       iterate 8 ((try (refine drvZ Tryz.func143 ?_;simp only [go_sem,rdr,hlk,hat]));((with_reducible and_intros)<;>try exact sd))
       refine XK.callG [0] (pick bs pos 3 hb hl (by omega) (by simp only [InK];omega)) ok71 (hhp_one rfl) (hbT ()) (fun d h' ⟨v,_,_,e⟩=>by subst e;simp) ?_
       rintro _ _ ⟨v,rfl,hv,rfl⟩ _
       iterate 3 ((try (refine drvZ Tryz.func143 ?_;simp only [go_sem,rdr,hlk,hpl,set_I]));((with_reducible and_intros)<;>try exact sd))
       refine again (k+1,(pos+1),pt.set k v,op) some [] _ ⟨(show k+1≤4 by omega),(show n+1≤(pos+1) by omega),(show (pos+1)≤n+1+(k+1) by omega),by rw [List.length_set];exact hpt,hop,hoa⟩ (show 4 - (k+1)<4 - k by omega) ?_
       simp only [go_sem,TmOK,DM,DMs,CM,CMs,forall_eq,exists_eq_left,Mq,HpOK,LowOK,rdr,set_I]
       simp [-List.map_set,CMs_I,set_I]
       try exact CMs.kf hLC
      ·rw [show (((slt 2).toNat:Nat):Int)=99 from rfl] at hat
       refine drvL Tryz.func143 ?_
       simp only [go_sem,rdr,hlk]
       iterate 8 ((try (refine drvZ Tryz.func143 ?_;simp only [go_sem,rdr,hlk,hat]));((with_reducible and_intros)<;>try exact sd))
       refine XK.callG [0] (hval pos (by omega)) ok87 (hhp_one rfl) (hbT ()) (fun d h' ⟨_,_,_,_,_,_,e⟩=>by subst e;simp) ?_
       rintro _ _ ⟨v,rfl,hv,pos2,hp1,hp2,rfl⟩ _
       iterate 3 ((try (refine drvZ Tryz.func143 ?_;simp only [go_sem,rdr,hlk,hpl,set_I]));((with_reducible and_intros)<;>try exact sd))
       refine again (k+1,pos2,pt.set k v,op) some [] _ ⟨(show k+1≤4 by omega),(show n+1≤pos2 by omega),(show pos2≤n+1+(k+1) by omega),by rw [List.length_set];exact hpt,hop,hoa⟩ (show 4 - (k+1)<4 - k by omega) ?_
       simp only [go_sem,TmOK,DM,DMs,CM,CMs,forall_eq,exists_eq_left,Mq,HpOK,LowOK,rdr,set_I]
       simp [-List.map_set,CMs_I,set_I]
       try exact CMs.kf hLC
      ·rw [show (((slt 3).toNat:Nat):Int)=118 from rfl] at hat
       refine drvL Tryz.func143 ?_
       simp only [go_sem,rdr,hlk]
       iterate 8 ((try (refine drvZ Tryz.func143 ?_;simp only [go_sem,rdr,hlk,hat]));((with_reducible and_intros)<;>try exact sd))
       refine XK.callG [0] (pick bs pos vs.length hb hl (by omega) (by simp only [InK];omega)) ok71 (hhp_one rfl) (hbT ()) (fun d h' ⟨v,_,_,e⟩=>by subst e;simp) ?_
       rintro _ _ ⟨v,rfl,hv,rfl⟩ _
       iterate 3 ((try (refine drvZ Tryz.func143 ?_;simp only [go_sem,rdr,hlk,hpl,set_I]));((with_reducible and_intros)<;>try exact sd))
       refine again (k+1,(pos+1),pt.set k v,op) some [] _ ⟨(show k+1≤4 by omega),(show n+1≤(pos+1) by omega),(show (pos+1)≤n+1+(k+1) by omega),by rw [List.length_set];exact hpt,hop,hoa⟩ (show 4 - (k+1)<4 - k by omega) ?_
       simp only [go_sem,TmOK,DM,DMs,CM,CMs,forall_eq,exists_eq_left,Mq,HpOK,LowOK,rdr,set_I]
       simp [-List.map_set,CMs_I,set_I]
       try exact CMs.kf hLC
      ·rw [show (((slt 4).toNat:Nat):Int)=97 from rfl] at hat
       refine drvL Tryz.func143 ?_
       simp only [go_sem,rdr,hlk]
       iterate 8 ((try (refine drvZ Tryz.func143 ?_;simp only [go_sem,rdr,hlk,hat]));((with_reducible and_intros)<;>try exact sd))
       refine XK.callG [0] (pick bs pos ar.length hb hl (by omega) (by simp only [InK];omega)) ok71 (hhp_one rfl) (hbT ()) (fun d h' ⟨v,_,_,e⟩=>by subst e;simp) ?_
       rintro _ _ ⟨v,rfl,hv,rfl⟩ _
       iterate 3 ((try (refine drvZ Tryz.func143 ?_;simp only [go_sem,rdr,hlk,hpl,set_I]));((with_reducible and_intros)<;>try exact sd))
       refine again (k+1,(pos+1),pt.set k v,op) some [] _ ⟨(show k+1≤4 by omega),(show n+1≤(pos+1) by omega),(show (pos+1)≤n+1+(k+1) by omega),by rw [List.length_set];exact hpt,hop,hoa⟩ (show 4 - (k+1)<4 - k by omega) ?_
       simp only [go_sem,TmOK,DM,DMs,CM,CMs,forall_eq,exists_eq_left,Mq,HpOK,LowOK,rdr,set_I]
       simp [-List.map_set,CMs_I,set_I]
       try exact CMs.kf hLC
      ·rw [show (((slt 5).toNat:Nat):Int)=111 from rfl] at hat
       refine drvL Tryz.func143 ?_
       simp only [go_sem,rdr,hlk]
       iterate 8 ((try (refine drvZ Tryz.func143 ?_;simp only [go_sem,rdr,hlk,hat]));((with_reducible and_intros)<;>try exact sd))
       refine XK.callG [0] (pick bs pos 7 hb hl (by omega) (by simp only [InK];omega)) ok71 (hhp_one rfl) (hbT ()) (fun d h' ⟨v,_,_,e⟩=>by subst e;simp) ?_
       rintro _ _ ⟨v,rfl,hv,rfl⟩ _
       iterate 3 ((try (refine drvZ Tryz.func143 ?_;simp only [go_sem,rdr,hlk,hpl,set_I]));((with_reducible and_intros)<;>try exact sd))
       refine again (k+1,(pos+1),pt.set k (4+v),op) some [] _ ⟨(show k+1≤4 by omega),(show n+1≤(pos+1) by omega),(show (pos+1)≤n+1+(k+1) by omega),by rw [List.length_set];exact hpt,hop,hoa⟩ (show 4 - (k+1)<4 - k by omega) ?_
       simp only [go_sem,TmOK,DM,DMs,CM,CMs,forall_eq,exists_eq_left,Mq,HpOK,LowOK,rdr,set_I]
       simp [-List.map_set,CMs_I,set_I]
       try exact CMs.kf hLC
      ·rw [show (((slt 6).toNat:Nat):Int)=116 from rfl] at hat
       refine drvL Tryz.func143 ?_
       simp only [go_sem,rdr,hlk]
       iterate 8 ((try (refine drvZ Tryz.func143 ?_;simp only [go_sem,rdr,hlk,hat]));((with_reducible and_intros)<;>try exact sd))
       refine XK.callG [0] (pick bs pos ((N:Int) - at_ - 1) hb hl (by omega) (by simp only [InK];omega)) ok71 (hhp_one rfl) (hbT ()) (fun d h' ⟨v,_,_,e⟩=>by subst e;simp) ?_
       rintro _ _ ⟨v,rfl,hv,rfl⟩ _
       iterate 3 ((try (refine drvZ Tryz.func143 ?_;simp only [go_sem,rdr,hlk,hpl,set_I]));((with_reducible and_intros)<;>try exact sd))
       refine again (k+1,(pos+1),pt.set k ((at_:Int)+1+v),op) some [] _ ⟨(show k+1≤4 by omega),(show n+1≤(pos+1) by omega),(show (pos+1)≤n+1+(k+1) by omega),by rw [List.length_set];exact hpt,hop,hoa⟩ (show 4 - (k+1)<4 - k by omega) ?_
       simp only [go_sem,TmOK,DM,DMs,CM,CMs,forall_eq,exists_eq_left,Mq,HpOK,LowOK,rdr,set_I]
       simp [-List.map_set,CMs_I,set_I]
       try exact CMs.kf hLC
     ·clear again
      match pt,hpt with
      | [p0,p1,p2,p3],_ =>
       refine drvL Tryz.func143 ?_
       simp only [go_sem,rdr,hlk]
       iterate 5 ((try (refine drvZ Tryz.func143 ?_;simp only [go_sem,rdr,hlk]));((with_reducible and_intros)<;>try exact sd))
       refine RetOb.ofQ (fun j=>if j<2 then some j else none) [] (.agg (inX ⟨op,p0,p1,p2,p3⟩)) [some (rdr bs pos),some LC] ?_ (by rw [← hR];exact ⟨_,rfl,pos,by omega,by omega,rfl⟩) (by simp)
       simp [inX,enumL,hOf,DM,DMs,CM,CMs,HpOK,LowOK,upd,rdr,kf]
       try exact CMs.kf hLC
    ·simp only [go_sem,TmOK,DM,DMs,CM,CMs,forall_eq,exists_eq_left,Mq,HpOK,LowOK,rdr]
     simp [CMs,hOf,hpL]
     try exact CMs.kf hLC
   ·have e4:(o == 4)=false:=by simp [h4]
    have e5:(o == 5)=false:=by simp [h5]
    have hfo:=hfd o ho2
    iterate 5 ((try (refine drvZ Tryz.func143 ?_;simp only [go_sem,rdr,e0,e4,e5]));((with_reducible and_intros)<;>try exact sd);(try first | refine XK.p hfo ok140 ?_ | refine XK.gp hfo ok140 ?_))
    refine Go.loopQ (fun x : Nat × Nat × List Int × Int => [(0, .c (.ptr 0 0)), (2, DI .i64 at_), (3, DI .i64 N), (5, .c (.ptr 2 0)), (8, .c (.ptr 66 0)), (9, .c (.ptr 386 0)), (10, DS (sls x.2.2.2)), (11, .c (.msl 20 1 0 4)), (12, DI .i64 x.1)])
     (fun x=>[(0,some (rdr bs x.2.1)),(1,some LC),(2,some [isI vs,isI ar,.msl 1 5 0 m]),(20,some (x.2.2.1.map I64)),(66,some [I64 0,I64 0,I64 0,I64 0,I64 0]),(386,some [I64 x.2.2.2,I64 0,I64 0,I64 0,I64 0])])
     8192 (fun x=>x.1≤4∧n+1≤x.2.1∧x.2.1≤n+1+x.1∧x.2.2.1.length=4∧(1≤x.2.2.2∧x.2.2.2≤13)∧True) (fun x=>4 - x.1) ?_ (0,n+1,[0,0,0,0],o) (fun j=>if j=20 then some 1666 else some j) [] _ ⟨by simp,by simp,by simp,rfl,ho2,trivial⟩ ?_
    ·rintro ⟨k,pos,pt,op⟩ ⟨hk,hp1,hp2,hpt,hop,hoa⟩ again
     simp only at hk hp1 hp2 hpt hop again ⊢
     have hsz:=sls_size op
     have hpl:(pt.map I64).length=4:=by rw [List.length_map];exact hpt
     by_cases hlk:k<(sls op).size
     ·have hk0:=(sls_len op k (by omega)).1 hlk
      have hat:=sls_at op k hk0
      have hk6:=kinds_le op k
      generalize (kindsOf op).getD k 0=kd at *
      have hkc:kd=1∨kd=2∨kd=3∨kd=4∨kd=5∨kd=6:=by omega
      have hat:(((sls op).data.toList.getD k 0).toNat:Int)=(((slt kd).toNat:Nat):Int):=by rw [hat]
      rcases hkc with rfl | rfl | rfl | rfl | rfl | rfl
      ·rw [show (((slt 1).toNat:Nat):Int)=114 from rfl] at hat
       refine drvL Tryz.func143 ?_
       simp only [go_sem,rdr,hlk]
       iterate 8 ((try (refine drvZ Tryz.func143 ?_;simp only [go_sem,rdr,hlk,hat]));((with_reducible and_intros)<;>try exact sd))
       refine XK.callG [0] (pick bs pos 3 hb hl (by omega) (by simp only [InK];omega)) ok71 (hhp_one rfl) (hbT ()) (fun d h' ⟨v,_,_,e⟩=>by subst e;simp) ?_
       rintro _ _ ⟨v,rfl,hv,rfl⟩ _
       iterate 3 ((try (refine drvZ Tryz.func143 ?_;simp only [go_sem,rdr,hlk,hpl,set_I]));((with_reducible and_intros)<;>try exact sd))
       refine again (k+1,(pos+1),pt.set k v,op) some [] _ ⟨(show k+1≤4 by omega),(show n+1≤(pos+1) by omega),(show (pos+1)≤n+1+(k+1) by omega),by rw [List.length_set];exact hpt,hop,hoa⟩ (show 4 - (k+1)<4 - k by omega) ?_
       simp only [go_sem,TmOK,DM,DMs,CM,CMs,forall_eq,exists_eq_left,Mq,HpOK,LowOK,rdr,set_I]
       simp [-List.map_set,CMs_I,set_I]
       try exact CMs.kf hLC
      ·rw [show (((slt 2).toNat:Nat):Int)=99 from rfl] at hat
       refine drvL Tryz.func143 ?_
       simp only [go_sem,rdr,hlk]
       iterate 8 ((try (refine drvZ Tryz.func143 ?_;simp only [go_sem,rdr,hlk,hat]));((with_reducible and_intros)<;>try exact sd))
       refine XK.callG [0] (hval pos (by omega)) ok87 (hhp_one rfl) (hbT ()) (fun d h' ⟨_,_,_,_,_,_,e⟩=>by subst e;simp) ?_
       rintro _ _ ⟨v,rfl,hv,pos2,hp1,hp2,rfl⟩ _
       iterate 3 ((try (refine drvZ Tryz.func143 ?_;simp only [go_sem,rdr,hlk,hpl,set_I]));((with_reducible and_intros)<;>try exact sd))
       refine again (k+1,pos2,pt.set k v,op) some [] _ ⟨(show k+1≤4 by omega),(show n+1≤pos2 by omega),(show pos2≤n+1+(k+1) by omega),by rw [List.length_set];exact hpt,hop,hoa⟩ (show 4 - (k+1)<4 - k by omega) ?_
       simp only [go_sem,TmOK,DM,DMs,CM,CMs,forall_eq,exists_eq_left,Mq,HpOK,LowOK,rdr,set_I]
       simp [-List.map_set,CMs_I,set_I]
       try exact CMs.kf hLC
      ·rw [show (((slt 3).toNat:Nat):Int)=118 from rfl] at hat
       refine drvL Tryz.func143 ?_
       simp only [go_sem,rdr,hlk]
       iterate 8 ((try (refine drvZ Tryz.func143 ?_;simp only [go_sem,rdr,hlk,hat]));((with_reducible and_intros)<;>try exact sd))
       refine XK.callG [0] (pick bs pos vs.length hb hl (by omega) (by simp only [InK];omega)) ok71 (hhp_one rfl) (hbT ()) (fun d h' ⟨v,_,_,e⟩=>by subst e;simp) ?_
       rintro _ _ ⟨v,rfl,hv,rfl⟩ _
       iterate 3 ((try (refine drvZ Tryz.func143 ?_;simp only [go_sem,rdr,hlk,hpl,set_I]));((with_reducible and_intros)<;>try exact sd))
       refine again (k+1,(pos+1),pt.set k v,op) some [] _ ⟨(show k+1≤4 by omega),(show n+1≤(pos+1) by omega),(show (pos+1)≤n+1+(k+1) by omega),by rw [List.length_set];exact hpt,hop,hoa⟩ (show 4 - (k+1)<4 - k by omega) ?_
       simp only [go_sem,TmOK,DM,DMs,CM,CMs,forall_eq,exists_eq_left,Mq,HpOK,LowOK,rdr,set_I]
       simp [-List.map_set,CMs_I,set_I]
       try exact CMs.kf hLC
      ·rw [show (((slt 4).toNat:Nat):Int)=97 from rfl] at hat
       refine drvL Tryz.func143 ?_
       simp only [go_sem,rdr,hlk]
       iterate 8 ((try (refine drvZ Tryz.func143 ?_;simp only [go_sem,rdr,hlk,hat]));((with_reducible and_intros)<;>try exact sd))
       refine XK.callG [0] (pick bs pos ar.length hb hl (by omega) (by simp only [InK];omega)) ok71 (hhp_one rfl) (hbT ()) (fun d h' ⟨v,_,_,e⟩=>by subst e;simp) ?_
       rintro _ _ ⟨v,rfl,hv,rfl⟩ _
       iterate 3 ((try (refine drvZ Tryz.func143 ?_;simp only [go_sem,rdr,hlk,hpl,set_I]));((with_reducible and_intros)<;>try exact sd))
       refine again (k+1,(pos+1),pt.set k v,op) some [] _ ⟨(show k+1≤4 by omega),(show n+1≤(pos+1) by omega),(show (pos+1)≤n+1+(k+1) by omega),by rw [List.length_set];exact hpt,hop,hoa⟩ (show 4 - (k+1)<4 - k by omega) ?_
       simp only [go_sem,TmOK,DM,DMs,CM,CMs,forall_eq,exists_eq_left,Mq,HpOK,LowOK,rdr,set_I]
       simp [-List.map_set,CMs_I,set_I]
       try exact CMs.kf hLC
      ·rw [show (((slt 5).toNat:Nat):Int)=111 from rfl] at hat
       refine drvL Tryz.func143 ?_
       simp only [go_sem,rdr,hlk]
       iterate 8 ((try (refine drvZ Tryz.func143 ?_;simp only [go_sem,rdr,hlk,hat]));((with_reducible and_intros)<;>try exact sd))
       refine XK.callG [0] (pick bs pos 7 hb hl (by omega) (by simp only [InK];omega)) ok71 (hhp_one rfl) (hbT ()) (fun d h' ⟨v,_,_,e⟩=>by subst e;simp) ?_
       rintro _ _ ⟨v,rfl,hv,rfl⟩ _
       iterate 3 ((try (refine drvZ Tryz.func143 ?_;simp only [go_sem,rdr,hlk,hpl,set_I]));((with_reducible and_intros)<;>try exact sd))
       refine again (k+1,(pos+1),pt.set k (4+v),op) some [] _ ⟨(show k+1≤4 by omega),(show n+1≤(pos+1) by omega),(show (pos+1)≤n+1+(k+1) by omega),by rw [List.length_set];exact hpt,hop,hoa⟩ (show 4 - (k+1)<4 - k by omega) ?_
       simp only [go_sem,TmOK,DM,DMs,CM,CMs,forall_eq,exists_eq_left,Mq,HpOK,LowOK,rdr,set_I]
       simp [-List.map_set,CMs_I,set_I]
       try exact CMs.kf hLC
      ·rw [show (((slt 6).toNat:Nat):Int)=116 from rfl] at hat
       refine drvL Tryz.func143 ?_
       simp only [go_sem,rdr,hlk]
       iterate 8 ((try (refine drvZ Tryz.func143 ?_;simp only [go_sem,rdr,hlk,hat]));((with_reducible and_intros)<;>try exact sd))
       refine XK.callG [0] (pick bs pos ((N:Int) - at_ - 1) hb hl (by omega) (by simp only [InK];omega)) ok71 (hhp_one rfl) (hbT ()) (fun d h' ⟨v,_,_,e⟩=>by subst e;simp) ?_
       rintro _ _ ⟨v,rfl,hv,rfl⟩ _
       iterate 3 ((try (refine drvZ Tryz.func143 ?_;simp only [go_sem,rdr,hlk,hpl,set_I]));((with_reducible and_intros)<;>try exact sd))
       refine again (k+1,(pos+1),pt.set k ((at_:Int)+1+v),op) some [] _ ⟨(show k+1≤4 by omega),(show n+1≤(pos+1) by omega),(show (pos+1)≤n+1+(k+1) by omega),by rw [List.length_set];exact hpt,hop,hoa⟩ (show 4 - (k+1)<4 - k by omega) ?_
       simp only [go_sem,TmOK,DM,DMs,CM,CMs,forall_eq,exists_eq_left,Mq,HpOK,LowOK,rdr,set_I]
       simp [-List.map_set,CMs_I,set_I]
       try exact CMs.kf hLC
     ·clear again
      match pt,hpt with
      | [p0,p1,p2,p3],_ =>
       refine drvL Tryz.func143 ?_
       simp only [go_sem,rdr,hlk]
       iterate 5 ((try (refine drvZ Tryz.func143 ?_;simp only [go_sem,rdr,hlk]));((with_reducible and_intros)<;>try exact sd))
       refine RetOb.ofQ (fun j=>if j<2 then some j else none) [] (.agg (inX ⟨op,p0,p1,p2,p3⟩)) [some (rdr bs pos),some LC] ?_ (by rw [← hR];exact ⟨_,rfl,pos,by omega,by omega,rfl⟩) (by simp)
       simp [inX,enumL,hOf,DM,DMs,CM,CMs,HpOK,LowOK,upd,rdr,kf]
       try exact CMs.kf hLC
    ·simp only [go_sem,TmOK,DM,DMs,CM,CMs,forall_eq,exists_eq_left,Mq,HpOK,LowOK,rdr]
     simp [CMs,hOf,hpL]
     try exact CMs.kf hLC
 ·have e0:((ar.length:Int) == 0)=false:=by simp [h0]
  have hfo:=hfd o ho2
  iterate 5 ((try (refine drvZ Tryz.func143 ?_;simp only [go_sem,rdr,e0]));((with_reducible and_intros)<;>try exact sd);(try first | refine XK.p hfo ok140 ?_ | refine XK.gp hfo ok140 ?_))
  refine Go.loopQ (fun x : Nat × Nat × List Int × Int => [(0, .c (.ptr 0 0)), (2, DI .i64 at_), (3, DI .i64 N), (5, .c (.ptr 2 0)), (8, .c (.ptr 66 0)), (9, .c (.ptr 386 0)), (10, DS (sls x.2.2.2)), (11, .c (.msl 20 1 0 4)), (12, DI .i64 x.1)])
   (fun x=>[(0,some (rdr bs x.2.1)),(1,some LC),(2,some [isI vs,isI ar,.msl 1 5 0 m]),(20,some (x.2.2.1.map I64)),(66,some [I64 0,I64 0,I64 0,I64 0,I64 0]),(386,some [I64 x.2.2.2,I64 0,I64 0,I64 0,I64 0])])
   8192 (fun x=>x.1≤4∧n+1≤x.2.1∧x.2.1≤n+1+x.1∧x.2.2.1.length=4∧(1≤x.2.2.2∧x.2.2.2≤13)∧True) (fun x=>4 - x.1) ?_ (0,n+1,[0,0,0,0],o) (fun j=>if j=20 then some 1666 else some j) [] _ ⟨by simp,by simp,by simp,rfl,ho2,trivial⟩ ?_
  ·rintro ⟨k,pos,pt,op⟩ ⟨hk,hp1,hp2,hpt,hop,hoa⟩ again
   simp only at hk hp1 hp2 hpt hop again ⊢
   have hsz:=sls_size op
   have hpl:(pt.map I64).length=4:=by rw [List.length_map];exact hpt
   by_cases hlk:k<(sls op).size
   ·have hk0:=(sls_len op k (by omega)).1 hlk
    have hat:=sls_at op k hk0
    have hk6:=kinds_le op k
    generalize (kindsOf op).getD k 0=kd at *
    have hkc:kd=1∨kd=2∨kd=3∨kd=4∨kd=5∨kd=6:=by omega
    have hat:(((sls op).data.toList.getD k 0).toNat:Int)=(((slt kd).toNat:Nat):Int):=by rw [hat]
    rcases hkc with rfl | rfl | rfl | rfl | rfl | rfl
    ·rw [show (((slt 1).toNat:Nat):Int)=114 from rfl] at hat
     refine drvL Tryz.func143 ?_
     simp only [go_sem,rdr,hlk]
     iterate 8 ((try (refine drvZ Tryz.func143 ?_;simp only [go_sem,rdr,hlk,hat]));((with_reducible and_intros)<;>try exact sd))
     refine XK.callG [0] (pick bs pos 3 hb hl (by omega) (by simp only [InK];omega)) ok71 (hhp_one rfl) (hbT ()) (fun d h' ⟨v,_,_,e⟩=>by subst e;simp) ?_
     rintro _ _ ⟨v,rfl,hv,rfl⟩ _
     iterate 3 ((try (refine drvZ Tryz.func143 ?_;simp only [go_sem,rdr,hlk,hpl,set_I]));((with_reducible and_intros)<;>try exact sd))
     refine again (k+1,(pos+1),pt.set k v,op) some [] _ ⟨(show k+1≤4 by omega),(show n+1≤(pos+1) by omega),(show (pos+1)≤n+1+(k+1) by omega),by rw [List.length_set];exact hpt,hop,hoa⟩ (show 4 - (k+1)<4 - k by omega) ?_
     simp only [go_sem,TmOK,DM,DMs,CM,CMs,forall_eq,exists_eq_left,Mq,HpOK,LowOK,rdr,set_I]
     simp [-List.map_set,CMs_I,set_I]
     try exact CMs.kf hLC
    ·rw [show (((slt 2).toNat:Nat):Int)=99 from rfl] at hat
     refine drvL Tryz.func143 ?_
     simp only [go_sem,rdr,hlk]
     iterate 8 ((try (refine drvZ Tryz.func143 ?_;simp only [go_sem,rdr,hlk,hat]));((with_reducible and_intros)<;>try exact sd))
     refine XK.callG [0] (hval pos (by omega)) ok87 (hhp_one rfl) (hbT ()) (fun d h' ⟨_,_,_,_,_,_,e⟩=>by subst e;simp) ?_
     rintro _ _ ⟨v,rfl,hv,pos2,hp1,hp2,rfl⟩ _
     iterate 3 ((try (refine drvZ Tryz.func143 ?_;simp only [go_sem,rdr,hlk,hpl,set_I]));((with_reducible and_intros)<;>try exact sd))
     refine again (k+1,pos2,pt.set k v,op) some [] _ ⟨(show k+1≤4 by omega),(show n+1≤pos2 by omega),(show pos2≤n+1+(k+1) by omega),by rw [List.length_set];exact hpt,hop,hoa⟩ (show 4 - (k+1)<4 - k by omega) ?_
     simp only [go_sem,TmOK,DM,DMs,CM,CMs,forall_eq,exists_eq_left,Mq,HpOK,LowOK,rdr,set_I]
     simp [-List.map_set,CMs_I,set_I]
     try exact CMs.kf hLC
    ·rw [show (((slt 3).toNat:Nat):Int)=118 from rfl] at hat
     refine drvL Tryz.func143 ?_
     simp only [go_sem,rdr,hlk]
     iterate 8 ((try (refine drvZ Tryz.func143 ?_;simp only [go_sem,rdr,hlk,hat]));((with_reducible and_intros)<;>try exact sd))
     refine XK.callG [0] (pick bs pos vs.length hb hl (by omega) (by simp only [InK];omega)) ok71 (hhp_one rfl) (hbT ()) (fun d h' ⟨v,_,_,e⟩=>by subst e;simp) ?_
     rintro _ _ ⟨v,rfl,hv,rfl⟩ _
     iterate 3 ((try (refine drvZ Tryz.func143 ?_;simp only [go_sem,rdr,hlk,hpl,set_I]));((with_reducible and_intros)<;>try exact sd))
     refine again (k+1,(pos+1),pt.set k v,op) some [] _ ⟨(show k+1≤4 by omega),(show n+1≤(pos+1) by omega),(show (pos+1)≤n+1+(k+1) by omega),by rw [List.length_set];exact hpt,hop,hoa⟩ (show 4 - (k+1)<4 - k by omega) ?_
     simp only [go_sem,TmOK,DM,DMs,CM,CMs,forall_eq,exists_eq_left,Mq,HpOK,LowOK,rdr,set_I]
     simp [-List.map_set,CMs_I,set_I]
     try exact CMs.kf hLC
    ·rw [show (((slt 4).toNat:Nat):Int)=97 from rfl] at hat
     refine drvL Tryz.func143 ?_
     simp only [go_sem,rdr,hlk]
     iterate 8 ((try (refine drvZ Tryz.func143 ?_;simp only [go_sem,rdr,hlk,hat]));((with_reducible and_intros)<;>try exact sd))
     refine XK.callG [0] (pick bs pos ar.length hb hl (by omega) (by simp only [InK];omega)) ok71 (hhp_one rfl) (hbT ()) (fun d h' ⟨v,_,_,e⟩=>by subst e;simp) ?_
     rintro _ _ ⟨v,rfl,hv,rfl⟩ _
     iterate 3 ((try (refine drvZ Tryz.func143 ?_;simp only [go_sem,rdr,hlk,hpl,set_I]));((with_reducible and_intros)<;>try exact sd))
     refine again (k+1,(pos+1),pt.set k v,op) some [] _ ⟨(show k+1≤4 by omega),(show n+1≤(pos+1) by omega),(show (pos+1)≤n+1+(k+1) by omega),by rw [List.length_set];exact hpt,hop,hoa⟩ (show 4 - (k+1)<4 - k by omega) ?_
     simp only [go_sem,TmOK,DM,DMs,CM,CMs,forall_eq,exists_eq_left,Mq,HpOK,LowOK,rdr,set_I]
     simp [-List.map_set,CMs_I,set_I]
     try exact CMs.kf hLC
    ·rw [show (((slt 5).toNat:Nat):Int)=111 from rfl] at hat
     refine drvL Tryz.func143 ?_
     simp only [go_sem,rdr,hlk]
     iterate 8 ((try (refine drvZ Tryz.func143 ?_;simp only [go_sem,rdr,hlk,hat]));((with_reducible and_intros)<;>try exact sd))
     refine XK.callG [0] (pick bs pos 7 hb hl (by omega) (by simp only [InK];omega)) ok71 (hhp_one rfl) (hbT ()) (fun d h' ⟨v,_,_,e⟩=>by subst e;simp) ?_
     rintro _ _ ⟨v,rfl,hv,rfl⟩ _
     iterate 3 ((try (refine drvZ Tryz.func143 ?_;simp only [go_sem,rdr,hlk,hpl,set_I]));((with_reducible and_intros)<;>try exact sd))
     refine again (k+1,(pos+1),pt.set k (4+v),op) some [] _ ⟨(show k+1≤4 by omega),(show n+1≤(pos+1) by omega),(show (pos+1)≤n+1+(k+1) by omega),by rw [List.length_set];exact hpt,hop,hoa⟩ (show 4 - (k+1)<4 - k by omega) ?_
     simp only [go_sem,TmOK,DM,DMs,CM,CMs,forall_eq,exists_eq_left,Mq,HpOK,LowOK,rdr,set_I]
     simp [-List.map_set,CMs_I,set_I]
     try exact CMs.kf hLC
    ·rw [show (((slt 6).toNat:Nat):Int)=116 from rfl] at hat
     refine drvL Tryz.func143 ?_
     simp only [go_sem,rdr,hlk]
     iterate 8 ((try (refine drvZ Tryz.func143 ?_;simp only [go_sem,rdr,hlk,hat]));((with_reducible and_intros)<;>try exact sd))
     refine XK.callG [0] (pick bs pos ((N:Int) - at_ - 1) hb hl (by omega) (by simp only [InK];omega)) ok71 (hhp_one rfl) (hbT ()) (fun d h' ⟨v,_,_,e⟩=>by subst e;simp) ?_
     rintro _ _ ⟨v,rfl,hv,rfl⟩ _
     iterate 3 ((try (refine drvZ Tryz.func143 ?_;simp only [go_sem,rdr,hlk,hpl,set_I]));((with_reducible and_intros)<;>try exact sd))
     refine again (k+1,(pos+1),pt.set k ((at_:Int)+1+v),op) some [] _ ⟨(show k+1≤4 by omega),(show n+1≤(pos+1) by omega),(show (pos+1)≤n+1+(k+1) by omega),by rw [List.length_set];exact hpt,hop,hoa⟩ (show 4 - (k+1)<4 - k by omega) ?_
     simp only [go_sem,TmOK,DM,DMs,CM,CMs,forall_eq,exists_eq_left,Mq,HpOK,LowOK,rdr,set_I]
     simp [-List.map_set,CMs_I,set_I]
     try exact CMs.kf hLC
   ·clear again
    match pt,hpt with
    | [p0,p1,p2,p3],_ =>
     refine drvL Tryz.func143 ?_
     simp only [go_sem,rdr,hlk]
     iterate 5 ((try (refine drvZ Tryz.func143 ?_;simp only [go_sem,rdr,hlk]));((with_reducible and_intros)<;>try exact sd))
     refine RetOb.ofQ (fun j=>if j<2 then some j else none) [] (.agg (inX ⟨op,p0,p1,p2,p3⟩)) [some (rdr bs pos),some LC] ?_ (by rw [← hR];exact ⟨_,rfl,pos,by omega,by omega,rfl⟩) (by simp)
     simp [inX,enumL,hOf,DM,DMs,CM,CMs,HpOK,LowOK,upd,rdr,kf]
     try exact CMs.kf hLC
  ·simp only [go_sem,TmOK,DM,DMs,CM,CMs,forall_eq,exists_eq_left,Mq,HpOK,LowOK,rdr]
   simp [CMs,hOf,hpL]
   try exact CMs.kf hLC
open CtL (In Cd compP compL lenL)
def cpoR (p:Pg) (r:D) (h:List (Option (List C))):Prop :=
 (∃ l:List In,r = .tup [.agg [isI p.vars,isI p.arrays,.msl 0 5 0 l.length],DB true]∧h=[some (inC l)]∧l.length≤400∧1≤p.vars.length∧p.vars.length≤12∧p.arrays.length≤2)∨(r = .tup [.agg (cdC ⟨[],[],[]⟩),DB false]∧h=[])
theorem compProgSO (p:Pg) (hv:p.vars.length≤2000000) (ha:p.arrays.length≤2000000) (hz:lsize 5 p.body≤1099511627776):DC Tryz.prog 8 [.agg p.cells] [] (cpoR p):=by
 have hmx:=mx_eq
 have hc:=compileS p hv ha hz
 generalize hR:cpoR p=R
 by_cases hok:progOK p=true∧lenL 5 p.body+1≤400
 ·have hcp:compP p=(⟨p.vars,p.arrays,compL p⟩,true):=if_pos hok
  have hll:(compL p).length≤400:=by rw [CtL.compL_len hok.1];exact hok.2
  have hpl:=prog_len hok.1
  rw [show l7R p=fun r h=>r = .tup [CsD 0 1 (compL p) (ownL p) (lsize 5 p.body:Nat),DB true]∧h=CsH (compL p) (ownL p) by funext r h;simp [l7R,hcp]] at hc
  generalize compL p=B at *
  generalize ownL p=W at *
  generalize lsize 5 p.body=M at *
  obtain ⟨vs,ar,bd⟩:=p
  simp only at hv ha
  have hgv:=flat_I vs
  have hga:=flat_I ar
  have e1:=in_len5 B
  have e2:=in_kf5 B
  refine dcZ Tryz.func8 ?_
  simp only [go_sem]
  iterate 2 ((try (refine drvZ Tryz.func8 ?_;simp only [go_sem]));((with_reducible and_intros)<;>try exact sd))
  refine XK.callG [] hc ok34 (fun i' x h=>by simp at h) (hbT ()) (fun d h' ⟨_,e⟩=>by subst e;simp) ?_
  rintro _ _ ⟨rfl,rfl⟩ _
  iterate 8 ((try (refine drvZ Tryz.func8 ?_;simp only [go_sem,renCs_in,renCs_I,flat_I']));((with_reducible and_intros)<;>try exact sd))
  refine RetOb.ofQ (fun j=>if j=0 then some 256 else none) [1024,1280] (.tup [.agg [.isl 1 (vs.map fun n=>[I64 n]),.isl 1 (ar.map fun n=>[I64 n]),.msl 0 5 0 B.length],DB true]) [some (inC B)] ?_ (by rw [← hR];exact .inl ⟨B,rfl,rfl,hll,hpl⟩) (by simp)
  simp [-List.mem_map,enumL,hOf,DM,DMs,CM,CMs,HpOK,LowOK,upd,hgv,hga,List.take_of_length_le,appUp,upsFrom,rkey,wkey,renCs_in,in_flat,CMs_in]
  exact ⟨⟨I_len1 _,I_kf1 _⟩,⟨I_len1 _,I_kf1 _⟩⟩
 ·have hcp:compP p=(⟨[],[],[]⟩,false):=if_neg hok
  rw [show l7R p=fun r h=>r = .tup [.agg [.v (.slice none 0 0),.v (.slice none 0 0),I64 0],DB false]∧h=[] by funext r h;simp [l7R,hcp]] at hc
  obtain ⟨vs,ar,bd⟩:=p
  refine dcZ Tryz.func8 ?_
  simp only [go_sem]
  iterate 2 ((try (refine drvZ Tryz.func8 ?_;simp only [go_sem]));((with_reducible and_intros)<;>try exact sd))
  refine XK.callG [] hc ok34 (fun i' x h=>by simp at h) (hbT ()) (fun d h' ⟨_,e⟩=>by subst e;simp) ?_
  rintro _ _ ⟨rfl,rfl⟩ _
  iterate 5 ((try (refine drvZ Tryz.func8 ?_;simp only [go_sem]));((with_reducible and_intros)<;>try exact sd))
  exact RetOb.cd0 (by rw [← hR];exact .inr ⟨rfl,rfl⟩)
end Go.Proofs.YtbknljofedfpjaaGreat.CtD
