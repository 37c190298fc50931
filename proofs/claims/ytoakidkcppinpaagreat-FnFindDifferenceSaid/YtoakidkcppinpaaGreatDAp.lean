/- Contracts of functions of the program, one behind the other, as plain data: what each call returns and which blocks it leaves. -/
import Derived.Test.YtoakidkcppinpaaGreatDFacts
import Derived.Test.YtoakidkcppinpaaGreatDAk
import Derived.Test.YtoakidkcppinpaaGreatDAl
import Derived.Test.YtoakidkcppinpaaGreatDAn
import Derived.Test.YtoakidkcppinpaaGreatDAo
set_option linter.unusedVariables false
set_option linter.unusedSimpArgs false
set_option linter.unusedSectionVars false
set_option maxHeartbeats 16000000
set_option maxRecDepth 100000
namespace Go.Proofs.YtoakidkcppinpaaGreat.CtR
open Go Go.CT CtF
variable [Yn]
structure Lv where
 vars:Sl
 arrays:Sl
 body:Sl
def Lv.pg (p:Lv):Pg:=⟨List.replicate p.vars.length 0,List.replicate p.arrays.length 0,[]⟩
def Lv.cells (p:Lv):List C:=[p.vars.c,p.arrays.c,p.body.c]
attribute [go_sem] Lv.cells
theorem l2LimitV (p:Lv) (k:Int):DC Tryz.prog 160 [.agg p.cells,DI .i64 k] [] (fun d h=>d=DI .i64 (limit p.pg k)∧h=[]):=by
 refine dc_of_go Tryz.func160 rfl (by simp) ?_
 refine drv_sound (n:=100) (rs:=_) Tryz.func160 mo rfl none _ _ ?_
 simp only [go_sem,Lv.cells,Sl.c,Ex.cells,isI,I64]
 repeat' (first | with_reducible apply And.intro | with_reducible intro _)
 all_goals first | omega | skip
 all_goals refine RetOb.plain (d:=DI .i64 _) ⟨?_,rfl⟩ rfl
 all_goals (unfold limit;simp_all [DI,Lv.pg])
theorem l2ShapeV (p:Lv) (hl:p.vars.length≤mx) (hl2:p.arrays.length≤mx):∀ (d:Nat) (e:Ex),d≤5→DC Tryz.prog 152 [.agg p.cells,.agg e.cells,DI .i64 d] [] (fun r h=>r=DB (shape p.pg d e)∧h=[]):=by
 have hmx:=mx_eq
 intro d
 induction d using Nat.strongRecOn with
 | _ d ih =>
  intro e hd
  obtain ⟨k,v,ks⟩:=e
  obtain ⟨vs,ar,bd⟩:=p
  refine dc_of_go Tryz.func152 rfl (by simp) ?_
  refine drv_sound (n:=100) (rs:=_) Tryz.func152 mo rfl none _ _ ?_
  simp only [go_sem]
  repeat refine And.intro (by kernel_rfl) ?_
  refine XK.gplain 2 false (!(decide ((d:Int)<1))) (fun _=>l2Arity k) ok151 ?_ (hbT ()) (fun _=>by kernel_rfl) (hok:=by intro hx;simp [okP,getCall,Call.operands,evT,upd,peelB,DB,DI,cst,one] at hx ⊢;first | done | exact hx | (simp_all;done) | omega)
  refine drv_sound (n:=100) (rs:=_) Tryz.func152 mo rfl (some _) _ _ ?_
  simp only [go_sem]
  repeat refine And.intro (by kernel_rfl) ?_
  refine XK.gplain 16 false (!((decide ((d:Int)<1) || ((ks.length:Int) != arity k)) || decide (v<0))) (fun _=>l2LimitV ⟨vs,ar,bd⟩ k) ok160 ?_ (hbT ()) (fun _=>by kernel_rfl) (hok:=by intro hx;simp [okP,getCall,Call.operands,evT,upd,peelB,DB,DI,cst,one] at hx ⊢;first | done | exact hx | (simp_all;done) | omega)
  refine drv_sound (n:=100) (rs:=_) Tryz.func152 mo rfl (some _) _ _ ?_
  simp only [go_sem]
  refine And.intro (by kernel_rfl) (And.intro (by kernel_rfl) ⟨fun hno=>RetOb.plain (d:=DB false) ⟨?_,rfl⟩ rfl,fun hyes=>?_⟩)
  ·cases d with
   | zero=>rfl
   | succ d =>
    simp only [shape]
    rw [fitsE_false (by omega)]
    rfl
  obtain ⟨d',rfl⟩:∃ d',d=d' + 1:=⟨d - 1,by omega⟩
  have ks3:ks.length≤3:=by have:=arity_le k;omega
  have hfit:=fitsE_true (p:=Lv.pg ⟨vs,ar,bd⟩) (v:=v) hyes.1.1.2 hyes.1.2 hyes.2
  refine Go.loopL (fun i:Nat=>[(2,DI .i64 ((d' + 1:Nat):Int)),(3,.c (.ptr 0 0)),(4,.c (.ptr 64 0)),(7,DI .i64 i)]) (fun _=>[(0,some (Lv.cells ⟨vs,ar,bd⟩)),(64,some (Ex.cells (.mk k v ks)))]) 1024 (fun i=>i≤ks.length∧ks.all (shape (Lv.pg ⟨vs,ar,bd⟩) d')=(ks.drop i).all (shape (Lv.pg ⟨vs,ar,bd⟩) d')) (fun i=>ks.length - i) ?_ 0 some [] _ ⟨Nat.zero_le _,rfl⟩ ?_
  ·intro i hi again
   refine drv_sound (n:=100) (rs:=_) Tryz.func152 mo rfl none _ _ ?_
   rcases Nat.lt_or_ge i ks.length with hlt | hge
   ·obtain ⟨⟨k',v',ks'⟩,hx⟩:∃ x,ks[i]? = some x:=⟨ks[i],by simp [hlt]⟩
    have hI:=hi.2
    obtain ⟨_,he⟩:=List.getElem?_eq_some_iff.1 hx
    rw [List.drop_eq_getElem_cons hlt,he,List.all_cons] at hI
    simp only [go_sem,hx,hlt]
    (with_reducible and_intros)<;>try exact sd
    refine XK.plain (ih d' (by omega) (.mk k' v' ks') (by omega)) ok152 ?_ (hbT ()) (fun _=>by kernel_rfl)
    refine drv_sound (n:=100) (rs:=_) Tryz.func152 mo rfl (some _) _ _ ?_
    simp only [go_sem]
    refine And.intro (by kernel_rfl) ⟨fun hno=>RetOb.plain (d:=DB false) ⟨?_,rfl⟩ rfl,fun hyes=>⟨by simp only [InK];omega,?_⟩⟩
    ·rw [hno] at hI
     simp [DB,shape,hI]
    ·refine again (i+1) some [] _ ⟨by omega,?_⟩ (by omega) ?_
     ·rw [hI,hyes];rfl
     ·simp only [go_sem,TmOK,DM,DMs,CM,CMs,forall_eq,exists_eq_left,Mt,HpOK,LowOK]
      simp
   ·have hn:¬ i<ks.length:=by omega
    have hall:ks.all (shape (Lv.pg ⟨vs,ar,bd⟩) d')=true:=by rw [hi.2,List.drop_of_length_le hge];rfl
    have ret:∀ (hp:Hp) (b:Bool),b=(!(k == 3) || headAtom ks)→RetOb 0 (fun d h=>d=DB (shape (Lv.pg ⟨vs,ar,bd⟩) (d' + 1) (.mk k v ks))∧h=[]) (DB b) hp:=fun hp b hb=>RetOb.plain (d:=DB _) ⟨by simp [shape,hfit,hall,hb],rfl⟩ rfl
    rcases ks with _ | ⟨⟨k',v',ks'⟩,r⟩
    ·have hk3:k ≠ 3:=by rintro rfl;have:=hyes.1.1.2;simp [arity] at this
     have hb3:(k != 3)=true:=by simp [hk3]
     have hc3:(k == 3)=false:=by simp [hk3]
     have hi0:((i:Int)<0)=False:=by simp
     simp only [go_sem,hi0,hk3,hb3,hc3,Ex.cellsL]
     refine XK.gskip 3 false (DB false) ?_ (hbT ())
     refine drv_sound (n:=100) (rs:=_) Tryz.func152 mo rfl (some _) _ _ ?_
     simp only [go_sem]
     refine ret _ _ ?_
     simp [hk3]
    ·have hi0:((i:Int)<(r.length:Int)+1)=False:=by simp at hn;simp;omega
     simp only [go_sem,hi0,Ex.cellsL]
     refine XK.gplain 3 false (!(k != 3)) (fun _=>l2Atom (.mk k' v' ks')) ok143 ?_ (hbT ()) (hok:=by intro hx;simp [okP,getCall,Call.operands,evT,upd,peelB,DB,DI] at hx ⊢;first | done | exact hx | (simp_all;done) | omega)
     refine drv_sound (n:=100) (rs:=_) Tryz.func152 mo rfl (some _) _ _ ?_
     simp only [go_sem]
     refine ret _ _ ?_
     simp [headAtom,bne]
  ·simp only [go_sem,TmOK,DM,DMs,CM,CMs,forall_eq,exists_eq_left,Mt,HpOK,LowOK]
   simp
theorem l2RightV (p:Lv) (e:Ex) (hl:p.vars.length≤mx) (hl2:p.arrays.length≤mx):DC Tryz.prog 141 [.agg p.cells,.agg e.cells] [] (fun r h=>r=DB (right p.pg e)∧h=[]):=by
 obtain ⟨k,v,ks⟩:=e
 obtain ⟨vs,ar,bd⟩:=p
 refine dc_of_go Tryz.func141 rfl (by simp) ?_
 refine drv_sound (n:=100) (rs:=_) Tryz.func141 mo rfl none _ _ ?_
 simp only [go_sem]
 refine XK.plain (l2ShapeV ⟨vs,ar,bd⟩ hl hl2 5 (.mk k v ks) (by omega)) ok152 ?_ (hbT ())
 refine drv_sound (n:=100) (rs:=_) Tryz.func141 mo rfl (some _) _ _ ?_
 simp only [go_sem]
 refine XK.gplain 3 true (shape (Lv.pg ⟨vs,ar,bd⟩) 5 (.mk k v ks)) (fun h=>l2Count (Lv.pg ⟨vs,ar,bd⟩) 5 (.mk k v ks) (by omega) h) ok153 ?_ (hbT ()) (hok:=by intro hx;simp [okP,getCall,Call.operands,evT,upd,peelB,DB,DI,cst,one] at hx ⊢;first | done | exact hx | (simp_all;done) | omega)
 refine drv_sound (n:=100) (rs:=_) Tryz.func141 mo rfl (some _) _ _ ?_
 simp only [go_sem]
 refine RetOb.plain (d:=DB _) ⟨?_,rfl⟩ rfl
 simp [right,DB]
end Go.Proofs.YtoakidkcppinpaaGreat.CtR
namespace Go.Proofs.YtoakidkcppinpaaGreat.CtD
open Go Go.CT CtF CtR
variable [Yn]
theorem l2DrawAtomV (bs : List Int) (n : Nat) (p : Lv) (hb : Fits .u8 bs) (hl : bs.length ≤ 2000) (h1 : n + 4 ≤ 1099511627776) (hp : p.vars.length ≤ mx) : DC Tryz.prog 115 [.c (.ptr 0 0), .agg p.cells] [some (rdr bs n)]
 (fun d h=>∃ e:Ex,d = .agg e.cells∧AtomE e∧rdL bs n 2 h):=by
 have hmx:=mx_eq
 obtain ⟨vs,ar,bd⟩:=p
 have hp:vs.length≤mx:=hp
 refine dc_of_go Tryz.func115 rfl (by simp) ?_
 refine drv_sound (n:=100) (rs:=_) Tryz.func115 mo rfl none _ _ ?_
 simp only [go_sem,rdr]
 refine XK.callG [0] (pick bs n 3 hb hl (by omega) (by simp only [InK];omega)) ok16 (hhp_one rfl) (hbT ()) (fun d h' ⟨v,_,_,e⟩=>by subst e;simp) ?_
 rintro d h' ⟨v,rfl,hv,rfl⟩ _
 refine drv_sound (n:=100) (rs:=_) Tryz.func115 mo rfl (some _) _ _ ?_
 simp only [go_sem,rdr]
 refine ⟨fun h0=>?_,fun h0=>?_⟩
 ·refine ⟨by decide,?_⟩
  refine XK.freeze 9 385 1 7 [[.v (.int .i64 1)],[.v (.int .i64 0)],[.v (.int .i64 2)],[.v (.int .i64 3)],[.v (.int .i64 255)],[.v (.int .i64 7)],[.v (.int .i64 128)]] ?_ rfl
  refine XK.callG [0] (num bs (n+1) [1,0,2,3,255,7,128] hb hl (by omega) (by decide) (by decide)) ok20 (hhp_one rfl) (hbT ()) (fun d h' ⟨v,_,_,e⟩=>by subst e;simp) ?_
  rintro d h' ⟨v2,rfl,hv2,rfl⟩ _
  refine drv_sound (n:=100) (rs:=_) Tryz.func115 mo rfl (some _) _ _ ?_
  simp only [go_sem,rdr]
  simp at hv2
  refine RetOb.ofQ (fun j=>if j=0 then some 0 else none) [] (.agg (Ex.cells (.mk 1 v2 []))) [some (rdr bs ((n+2:Nat):Int))] ?_ ⟨.mk 1 v2 [],rfl,⟨1,v2,rfl,?_,by simp⟩,n+2,by omega,by omega,rfl⟩ (by simp)
  ·simp [enumL,hOf,DM,DMs,CM,CMs,HpOK,LowOK,upd,Ex.cells,Ex.cellsL,rdr]
   try omega
  ·simp only [InK];omega
 ·refine XK.callG [0] (pick bs (n+1) vs.length hb hl (by omega) (by simp only [InK];omega)) ok16 (hhp_one rfl) (hbT ()) (fun d h' ⟨v,_,_,e⟩=>by subst e;simp) ?_
  rintro d h' ⟨v2,rfl,hv2,rfl⟩ _
  refine drv_sound (n:=100) (rs:=_) Tryz.func115 mo rfl (some _) _ _ ?_
  simp only [go_sem,rdr]
  refine RetOb.ofQ (fun j=>if j=0 then some 0 else none) [] (.agg (Ex.cells (.mk 2 v2 []))) [some (rdr bs ((n+2:Nat):Int))] ?_ ⟨.mk 2 v2 [],rfl,⟨2,v2,rfl,?_,by simp⟩,n+2,by omega,by omega,rfl⟩ (by simp)
  ·simp [enumL,hOf,DM,DMs,CM,CMs,HpOK,LowOK,upd,Ex.cells,Ex.cellsL,rdr]
   try omega
  ·simp only [InK];omega
theorem l2DrawV (bs : List Int) (p : Lv) (hb : Fits .u8 bs) (hl : bs.length ≤ 2000) (hp : p.vars.length ≤ mx) (hp2 : p.arrays.length ≤ mx) : ∀ (d n : Nat), d ≤ 8 → n + KD d ≤ 1099511627776 → DC Tryz.prog 140 [.c (.ptr 0 0), .agg p.cells, DI .i64 d] [some (rdr bs n)]
 (fun r h=>∃ e:Ex,r = .agg e.cells∧SmE e∧rdL bs n (KD d) h):=by
 have hmx:=mx_eq
 intro d
 induction d using Nat.strongRecOn with
 | _ d ih =>
  intro n hd hn
  have hat:=fun n h=>l2DrawAtomV bs n p hb hl h hp
  obtain ⟨vs,ar,bd⟩:=p
  have hp:vs.length≤mx:=hp
  have hp2:ar.length≤mx:=hp2
  have hk:16≤KD d∨d=0:=by
   rcases d with _ | d
   ·exact .inr rfl
   ·left;unfold KD;rw [Nat.pow_succ,Nat.pow_succ];have:0<4 ^ d:=Nat.pow_pos (by decide);omega
  have hk4:4≤KD d:=by unfold KD;rw [Nat.pow_succ];have:0<4 ^ d:=Nat.pow_pos (by decide);omega
  by_cases hd2:d<2
  ·have h2:((d:Int)<2)=True:=eq_true (by omega)
   refine dcZ Tryz.func140 ?_
   simp only [go_sem,h2,rdr]
   refine XK.gskip 2 false (DI .i64 0) ?_ (hbT ())
   iterate 2 (try (refine drvZ Tryz.func140 ?_;simp only [go_sem,h2,rdr]))
   refine XK.callG [0] (hat n (by omega)) ok115 (hhp_one rfl) (hbT ()) (fun d h' ⟨_,_,_,_,_,_,e⟩=>by subst e;simp) ?_
   rintro _ _ ⟨⟨k,v,ks⟩,rfl,he,n',hn1,hn2,rfl⟩ _
   iterate 2 (try (refine drvZ Tryz.func140 ?_;simp only [go_sem,rdr]))
   exact RetOb.keep1 (d := .agg (Ex.cells (.mk k v ks))) (cs:=rdr bs n') ⟨.mk k v ks,rfl,SmE.atom he,n',hn1,by omega,rfl⟩ rfl (rdr_kf _ _) (ex_kf _)
  ·obtain ⟨d',rfl⟩:∃ d',d=d' + 1:=⟨d - 1,by omega⟩
   have h2:((d':Int)+1<2)=False:=eq_false (by omega)
   have hKK:KD (d' + 1)=4 * KD d':=by unfold KD;rw [Nat.pow_succ];omega
   have hk1:16≤KD d':=by
    obtain ⟨d2,rfl⟩:∃ d2,d'=d2+1:=⟨d' - 1,by omega⟩
    unfold KD;rw [Nat.pow_succ,Nat.pow_succ];have:0<4 ^ d2:=Nat.pow_pos (by decide);omega
   have hk16:16≤KD (d' + 1):=by omega
   refine dcZ Tryz.func140 ?_
   simp only [go_sem,h2,rdr]
   iterate 2 (try (refine drvZ Tryz.func140 ?_;simp only [go_sem,h2,rdr]))
   refine XK.callT 2 false [0] (pick bs n 4 hb hl (by omega) (by simp only [InK];omega)) ok16 (hhp_one rfl) (hbT ()) (fun d h' ⟨v,_,_,e⟩=>by subst e;simp) ?_
   rintro _ _ ⟨v0,rfl,hv0,rfl⟩ _
   by_cases hz:v0=0
   ·subst hz
    iterate 3 (try (refine drvZ Tryz.func140 ?_;simp only [go_sem,h2,rdr]))
    refine XK.callG [0] (hat (n+1) (by omega)) ok115 (hhp_one rfl) (hbT ()) (fun d h' ⟨_,_,_,_,_,_,e⟩=>by subst e;simp) ?_
    rintro _ _ ⟨⟨k,v,ks⟩,rfl,he,n',hn1,hn2,rfl⟩ _
    iterate 2 (try (refine drvZ Tryz.func140 ?_;simp only [go_sem,rdr]))
    exact RetOb.keep1 (d := .agg (Ex.cells (.mk k v ks))) (cs:=rdr bs n') ⟨.mk k v ks,rfl,SmE.atom he,n',by omega,by omega,rfl⟩ rfl (rdr_kf _ _) (ex_kf _)
   ·have hzb:(v0 == 0)=false:=by simp [hz]
    iterate 3 (try (refine drvZ Tryz.func140 ?_;simp only [go_sem,h2,rdr,hz,hzb]))
    refine ⟨by decide,?_⟩
    refine XK.callG [0,641] (numO bs (n+1) [4,10,8,9,3,6,7,5,11] hb hl (by omega) (by decide) (by decide)) ok20 (hhp2 rfl rfl) (hbT ()) (fun d h' ⟨_,_,_,e⟩=>by subst e;simp) ?_
    rintro _ _ ⟨kv,rfl,hkv,rfl⟩ _
    have hat2:=hat (n+2) (by omega)
    by_cases hk3:kv=3
    ·subst hk3
     by_cases ha0:ar.length=0
     ·have e1:((ar.length:Int) == 0)=true:=by simp [ha0]
      have e2:((ar.length:Int)=0)=True:=eq_true (by omega)
      iterate 4 (try (refine drvZ Tryz.func140 ?_;simp only [go_sem,h2,rdr,e1,e2]))
      refine XK.callG [0] (hat (n+2) (by omega)) ok115 (hhp_one rfl) (hbT ()) (fun d h' ⟨_,_,_,_,_,_,e⟩=>by subst e;simp) ?_
      rintro _ _ ⟨⟨k,v,ks⟩,rfl,he,n',hn1,hn2,rfl⟩ _
      iterate 2 (try (refine drvZ Tryz.func140 ?_;simp only [go_sem,rdr]))
      exact RetOb.keep1 (d := .agg (Ex.cells (.mk k v ks))) (cs:=rdr bs n') ⟨.mk k v ks,rfl,SmE.atom he,n',by omega,by omega,rfl⟩ rfl (rdr_kf _ _) (ex_kf _)
     ·have e1:((ar.length:Int) == 0)=false:=by simp only [beq_eq_false_iff_ne];omega
      have e2:((ar.length:Int)=0)=False:=eq_false (by omega)
      iterate 4 (try (refine drvZ Tryz.func140 ?_;simp only [go_sem,h2,rdr,e1,e2]))
      (with_reducible and_intros)<;>try exact sd
      iterate 3 (try (refine drvZ Tryz.func140 ?_;simp only [go_sem,h2,rdr,e1,e2]))
      (with_reducible and_intros)<;>try exact sd
      refine XK.callG [0] (pick bs (n+2) ar.length hb hl (by omega) (by simp only [InK];omega)) ok16 (hhp_one rfl) (hbT ()) (fun d h' ⟨v,_,_,e⟩=>by subst e;simp) ?_ (fun _=>⟨by kernel_rfl,_,_,⟨0,rfl,by omega,rfl⟩,by simp⟩)
      rintro _ _ ⟨v1,rfl,hv1,rfl⟩ _
      iterate 2 (try (refine drvZ Tryz.func140 ?_;simp only [go_sem,h2,rdr]))
      (with_reducible and_intros)<;>try exact sd
      refine XK.callG [0] (hat (n+3) (by omega)) ok115 (hhp_one rfl) (hbT ()) (fun d h' ⟨_,_,_,_,_,_,e⟩=>by subst e;simp) ?_ (fun _=>⟨by kernel_rfl,_,_,⟨.mk 2 0 [],rfl,⟨2,0,rfl,by simp only [InK];omega,.inr rfl⟩,n+3,by omega,by omega,rfl⟩,by simp⟩)
      rintro _ _ ⟨⟨k,v,ks⟩,rfl,he,n',hn1,hn2,rfl⟩ _
      iterate 3 (try (refine drvZ Tryz.func140 ?_;simp only [go_sem,h2,rdr]))
      (with_reducible and_intros)<;>try exact sd
      refine RetOb.ofQ (fun j=>if j=0 then some 0 else none) [1793] (.agg (Ex.cells (.mk 3 v1 [.mk k v ks]))) [some (rdr bs n')] ?_ ⟨.mk 3 v1 [.mk k v ks],rfl,.mk _ _ _ (by simp) (fun x hx=>by simp at hx;subst hx;exact SmE.atom he),n',by omega,by omega,rfl⟩ (by simp)
      simp [enumL,hOf,DM,DMs,CM,CMs,HpOK,LowOK,upd,Ex.cells,Ex.cellsL,rdr,kf]
    ·have e1:(kv == 3)=false:=by simp [hk3]
     iterate 4 (try (refine drvZ Tryz.func140 ?_;simp only [go_sem,h2,rdr,hk3,e1]))
     refine XK.plain (l2Arity kv) ok151 ?_ (hbT ())
     iterate 3 (try (refine drvZ Tryz.func140 ?_;simp only [go_sem,h2,rdr]))
     have har:0≤arity kv∧arity kv≤3:=by
      refine ⟨?_,arity_le kv⟩
      simp at hkv
      unfold arity;repeat' split
      all_goals omega
     refine Go.loopQ (fun x : Nat × Nat × List Ex => [(0, .c (.ptr 0 0)), (2, DI .i64 ((d' + 1 : Nat) : Int)), (4, .c (.ptr 1 0)), (6, .c (.ptr 65 0)), (8, .c (.ptr 66 0)), (9, DI .i64 x.1)])
      (fun x=>[(0,some (rdr bs x.2.1)),(1,some (Lv.cells ⟨vs,ar,bd⟩)),(65,some [I64 0,I64 0,.v (.slice none 0 0)]),(66,some [I64 kv,I64 0,.msl 67 3 0 x.2.2.length]),(67,some (exC x.2.2))])
      4096 (fun x=>x.2.2.length+x.1≤3∧(∀ e ∈ x.2.2,SmE e)∧n≤x.2.1∧x.2.1≤n+2+x.2.2.length * KD d') (fun x=>x.1) ?_ ((arity kv).toNat,n+2,[]) (fun j=>if j=66 then some 1089 else if j=67 then none else some j) [] _ ⟨by simp;omega,by simp,by simp,by simp⟩ ?_
     ·rintro ⟨i,pos,l⟩ ⟨hi1,hi2,hi3,hi4⟩ again
      simp only at hi1 hi2 hi3 hi4
      have hlk:l.length * KD d'≤3 * KD d':=Nat.mul_le_mul_right _ (by omega)
      rcases i with _ | i
      ·refine drvL Tryz.func140 ?_
       simp only [go_sem,h2,rdr]
       iterate 2 (try (refine drvZ Tryz.func140 ?_;simp only [go_sem,h2,rdr]))
       refine RetOb.ofQ (fun j=>if j=0 then some 0 else none) [67] (.agg (Ex.cells (.mk kv 0 l))) [some (rdr bs pos)] ?_ ⟨.mk kv 0 l,rfl,.mk _ _ _ (by omega) hi2,pos,by omega,by omega,rfl⟩ (by simp)
       have g1:(Ex.cellsL l).flatten=exC l:=by rw [Ex.cellsL_eq];rfl
       have g2:∀ x ∈ Ex.cellsL l,x.length=3:=fun x hx=>by rw [Ex.cellsL_eq] at hx;obtain ⟨e,_,rfl⟩:=List.mem_map.1 hx;exact Ex.cells_len e
       have g3:∀ x ∈ Ex.cellsL l,∀ c ∈ x,kf c=true:=fun x hx=>by rw [Ex.cellsL_eq] at hx;obtain ⟨e,_,rfl⟩:=List.mem_map.1 hx;exact ex_kf e
       simp only [enumL,hOf,DM,DMs,CM,CMs,HpOK,LowOK,upd,Ex.cells,rdr,Ex.cellsL_length,g1]
       first | (simp;exact ⟨g2,g3⟩) | (simp [g2];exact g3) | exact ⟨g2,g3⟩
      ·have hip:((0:Int)<(i:Int)+1)=True:=eq_true (by omega)
       have hlk2:l.length * KD d'≤2 * KD d':=Nat.mul_le_mul_right _ (by omega)
       refine drvL Tryz.func140 ?_
       simp only [go_sem,h2,rdr,hip]
       (with_reducible and_intros)<;>try exact sd
       iterate 2 (try (refine drvZ Tryz.func140 ?_;simp only [go_sem,h2,rdr,hip]))
       (with_reducible and_intros)<;>try exact sd
       refine XK.callG [0] (ih d' (by omega) pos (by omega) (by omega)) ok140 (hhp_one rfl) (hbT ()) (fun d h' ⟨_,_,_,_,_,_,e⟩=>by subst e;simp) ?_ (fun _=>⟨by kernel_rfl,_,_,⟨.mk 2 0 [],rfl,.mk _ _ _ (by simp) (fun x hx=>by simp at hx),pos,by omega,by omega,rfl⟩,by simp⟩)
       rintro _ _ ⟨⟨k,v,ks⟩,rfl,he,n',hn1,hn2,rfl⟩ _
       have hel:=exC_len l
       iterate 3 (try (refine drvZ Tryz.func140 ?_;simp only [go_sem,h2,rdr]))
       (with_reducible and_intros)<;>try exact sd
       iterate 2 (try (refine drvZ Tryz.func140 ?_;simp only [go_sem,h2,rdr]))
       (with_reducible and_intros)<;>try exact sd
       refine again (i,n',l++[.mk k v ks]) (fun j=>if j=67 then some 4736 else some j) [] _ ⟨by simp;omega,?_,by simp;omega,?_⟩ (by simp) ?_
       ·intro e he2
        rcases List.mem_append.1 he2 with h | h
        ·exact hi2 e h
        ·rw [List.mem_singleton.1 h];exact he
       ·simp only [List.length_append,List.length_cons,List.length_nil,Nat.add_mul];omega
       ·simp only [go_sem,TmOK,DM,DMs,CM,CMs,forall_eq,exists_eq_left,Mq,HpOK,LowOK,rdr,exC_snoc]
        simp
        exact CMs.kf (kf_app (exC_kf _) (by simp [kf]))
     ·simp only [go_sem,TmOK,DM,DMs,CM,CMs,forall_eq,exists_eq_left,Mq,HpOK,LowOK,rdr]
      simp [exC]
      omega
theorem l2SmallV (bs : List Int) (n : Nat) (p : Lv) (hb : Fits .u8 bs) (hl : bs.length ≤ 2000) (hp : p.vars.length ≤ mx) (hp2 : p.arrays.length ≤ mx) (hn : n + 2000 ≤ 1099511627776) : DC Tryz.prog 116 [.c (.ptr 0 0), .agg p.cells] [some (rdr bs n)]
 (fun r h=>∃ e:Ex,r = .agg e.cells∧SmE e∧rdL bs n 1100 h):=by
 have hmx:=mx_eq
 have hat:=fun n h=>l2DrawAtomV bs n p hb hl h hp
 have hdr:=fun d n h1 h2=>l2DrawV bs p hb hl hp hp2 d n h1 h2
 have hrt:=fun e=>l2RightV p e hp hp2
 obtain ⟨vs,ar,bd⟩:=p
 refine dcZ Tryz.func116 ?_
 simp only [go_sem,rdr]
 iterate 1 (try (refine drvZ Tryz.func116 ?_;simp only [go_sem,rdr]))
 (with_reducible and_intros)<;>try exact sd
 refine XK.callG [0,321] (numO bs n [2,3,2,1,4] hb hl (by omega) (by decide) (by decide)) ok20 (hhp2 rfl rfl) (hbT ()) (fun d h' ⟨_,_,_,e⟩=>by subst e;simp) ?_ (fun _=>⟨by kernel_rfl,_,_,⟨2,rfl,by simp,rfl⟩,by simp⟩)
 rintro _ _ ⟨dv,rfl,hdv,rfl⟩ _
 obtain ⟨d,rfl,hd1,hd4⟩:∃ d:Nat,dv=(d:Int)∧1≤d∧d≤4:=⟨dv.toNat,by simp at hdv;omega,by simp at hdv;omega,by simp at hdv;omega⟩
 have hK:KD d≤1024:=by unfold KD;exact Nat.le_trans (Nat.pow_le_pow_right (by omega) (show d+1≤5 by omega)) (by decide)
 iterate 1 (try (refine drvZ Tryz.func116 ?_;simp only [go_sem,rdr]))
 (with_reducible and_intros)<;>try exact sd
 refine XK.callG [0] (hdr d (n+1) (by omega) (by omega)) ok140 (hhp_one rfl) (hbT ()) (fun d h' ⟨_,_,_,_,_,_,e⟩=>by subst e;simp) ?_ (fun _=>⟨by kernel_rfl,_,_,⟨.mk 2 0 [],rfl,.mk _ _ _ (by simp) (fun x hx=>by simp at hx),n+1,by omega,by omega,rfl⟩,by simp⟩)
 rintro _ _ ⟨⟨k,v,ks⟩,rfl,he,n',hn1,hn2,rfl⟩ _
 iterate 2 (try (refine drvZ Tryz.func116 ?_;simp only [go_sem,rdr]))
 (with_reducible and_intros)<;>try exact sd
 iterate 1 (try (refine drvZ Tryz.func116 ?_;simp only [go_sem,rdr]))
 refine XK.plain (hrt (.mk k v ks)) ok141 ?_ (hbT ())
 cases hq:right (Lv.pg ⟨vs,ar,bd⟩) (.mk k v ks) with
 | true =>
  iterate 2 (try (refine drvZ Tryz.func116 ?_;simp only [go_sem,rdr,hq]))
  exact RetOb.keep1 (d := .agg (Ex.cells (.mk k v ks))) (cs:=rdr bs n') ⟨.mk k v ks,rfl,he,n',by omega,by omega,rfl⟩ rfl (rdr_kf _ _) (ex_kf _)
 | false =>
  iterate 2 (try (refine drvZ Tryz.func116 ?_;simp only [go_sem,rdr,hq]))
  refine XK.callG [0] (hat n' (by omega)) ok115 (hhp_one rfl) (hbT ()) (fun d h' ⟨_,_,_,_,_,_,e⟩=>by subst e;simp) ?_
  rintro _ _ ⟨⟨k2,v2,ks2⟩,rfl,he2,n2,hn3,hn4,rfl⟩ _
  iterate 2 (try (refine drvZ Tryz.func116 ?_;simp only [go_sem,rdr]))
  exact RetOb.keep1 (d := .agg (Ex.cells (.mk k2 v2 ks2))) (cs:=rdr bs n2) ⟨.mk k2 v2 ks2,rfl,SmE.atom he2,n2,by omega,by omega,rfl⟩ rfl (rdr_kf _ _) (ex_kf _)
theorem l2DrawBlockOfV (bs : List Int) (p : Lv) (dep : Int) (Q : St1 → Prop) (K : Nat) (hK : K ≤ 1000000000)
 (hst:∀ n:Nat,n+K≤549755813888→DC Tryz.prog 94 [.c (.ptr 0 0),.agg p.cells,DI .i64 dep] [some (rdr bs n)] (fun r h=>∃ s:St1,r = .agg s.cells∧Q s∧rdL bs n K h))
 (n nn : Nat) (hnn : nn ≤ 4) (hn : n + 4 * K ≤ 549755813888) : DC Tryz.prog 69 [.c (.ptr 0 0), .agg p.cells, DI .i64 dep, DI .i64 nn] [some (rdr bs n)]
  (fun r h=>∃ l:List St1,r = .c (.isl 11 (St1.cellsL l))∧l.length≤4∧(∀ s ∈ l,Q s)∧rdL bs n (4 * K) h):=by
 have hmx:=mx_eq
 obtain ⟨vs,ar,bd⟩:=p
 refine dcZ Tryz.func69 ?_
 simp only [go_sem,rdr]
 iterate 2 (try (refine drvZ Tryz.func69 ?_;simp only [go_sem,rdr]))
 refine Go.loopQ (fun x : Nat × Nat × List St1 => [(0, .c (.ptr 0 0)), (2, DI .i64 dep), (3, DI .i64 nn), (5, .c (.ptr 1 0)), (9, .c (.msl 67 11 0 x.2.2.length)), (10, DI .i64 x.1)])
  (fun x=>[(0,some (rdr bs x.2.1)),(1,some (Lv.cells ⟨vs,ar,bd⟩)),(67,some (stC x.2.2))])
  4096 (fun x=>x.2.2.length=x.1∧x.1≤nn∧(∀ s ∈ x.2.2,Q s)∧n≤x.2.1∧x.2.1≤n+x.1 * K) (fun x=>nn - x.1) ?_ (0,n,[]) (fun j=>if j=67 then some 129 else some j) [] _ ⟨rfl,by simp,by simp,by simp,by simp⟩ ?_
 ·rintro ⟨i,pos,l⟩ ⟨hi1,hi2,hi3,hi4,hi5⟩ again
  simp only at hi1 hi2 hi3 hi4 hi5
  have hik:i * K≤4 * K:=Nat.mul_le_mul_right _ (by omega)
  rcases Nat.lt_or_ge i nn with hlt | hge
  ·have hsl:=stC_len l
   have hik2:(i+1) * K≤4 * K:=Nat.mul_le_mul_right _ (by omega)
   rw [Nat.add_mul,Nat.one_mul] at hik2
   refine drvL Tryz.func69 ?_
   simp only [go_sem,rdr,hlt]
   iterate 2 (try (refine drvZ Tryz.func69 ?_;simp only [go_sem,rdr,hlt]))
   refine XK.callG [0] (hst pos (by omega)) ok94 (hhp_one rfl) (hbT ()) (fun d h' ⟨_,_,_,_,_,_,e⟩=>by subst e;simp) ?_
   rintro _ _ ⟨⟨k,t,⟨ik,iv,iks⟩,⟨vk,vv,vks⟩,c,b,e⟩,rfl,hs,n',hn1,hn2,rfl⟩ _
   iterate 3 (try (refine drvZ Tryz.func69 ?_;simp only [go_sem,rdr]))
   (with_reducible and_intros)<;>try exact sd
   refine again (i+1,n',l++[(.mk k t (.mk ik iv iks) (.mk vk vv vks) c b e)]) (fun j=>if j=67 then some 4672 else some j) [] _ ⟨by simp;omega,by omega,?_,by simp only;omega,?_⟩ (by simp only;omega) ?_
   ·intro x hx
    rcases List.mem_append.1 hx with h | h
    ·exact hi3 x h
    ·rw [List.mem_singleton.1 h];exact hs
   ·simp only [Nat.add_mul,Nat.one_mul];omega
   ·simp only [go_sem,TmOK,DM,DMs,CM,CMs,forall_eq,exists_eq_left,Mq,HpOK,LowOK,rdr,stC_snoc,List.cons_append,List.nil_append]
    simp
    exact CMs.kf (kf_app (stC_kf _) (by simp [kf]))
  ·have hnl:¬ i<nn:=by omega
   refine drvL Tryz.func69 ?_
   simp only [go_sem,rdr,hnl]
   iterate 2 (try (refine drvZ Tryz.func69 ?_;simp only [go_sem,rdr,hnl]))
   refine RetOb.ofQ (fun j=>if j=0 then some 0 else none) [67] (.c (.isl 11 (St1.cellsL l))) [some (rdr bs pos)] ?_ ⟨l,rfl,by omega,hi3,pos,hi4,by omega,rfl⟩ (by simp)
   have g1:(St1.cellsL l).flatten=stC l:=by rw [St1.cellsL_eq];rfl
   have g2:∀ x ∈ St1.cellsL l,x.length=11:=fun x hx=>by rw [St1.cellsL_eq] at hx;obtain ⟨e,_,rfl⟩:=List.mem_map.1 hx;exact St1.cells_len e
   have g3:∀ x ∈ St1.cellsL l,∀ c ∈ x,kf c=true:=fun x hx=>by rw [St1.cellsL_eq] at hx;obtain ⟨e,_,rfl⟩:=List.mem_map.1 hx;exact st_kf e
   simp only [enumL,hOf,DM,DMs,CM,CMs,HpOK,LowOK,upd,rdr,St1.cellsL_length,g1]
   first | (simp;exact ⟨g2,g3⟩) | (simp [g2];exact g3) | exact ⟨g2,g3⟩
 ·simp only [go_sem,TmOK,DM,DMs,CM,CMs,forall_eq,exists_eq_left,Mq,HpOK,LowOK,rdr]
  simp [stC,CMs]
theorem l2DrawStmtOfV (bs : List Int) (p : Lv) (hb : Fits .u8 bs) (hl : bs.length ≤ 2000) (hp : p.vars.length ≤ mx) (hp2 : p.arrays.length ≤ mx) (d : Nat) (hd : d ≤ 3)
 (ih : ∀ d', d = d' + 1 → ∀ (n nn : Nat), nn ≤ 4 → n + 4 * KS d' ≤ 549755813888 → DC Tryz.prog 69 [.c (.ptr 0 0), .agg p.cells, DI .i64 (d' + 1 : Nat), DI .i64 nn] [some (rdr bs n)]
  (fun r h=>∃ l:List St1,r = .c (.isl 11 (St1.cellsL l))∧l.length≤4∧(∀ s ∈ l,SmS d' s)∧rdL bs n (4 * KS d') h))
 (n:Nat) (hn:n+KS d≤549755813888):DC Tryz.prog 94 [.c (.ptr 0 0),.agg p.cells,DI .i64 (d+1:Nat)] [some (rdr bs n)] (stR bs n d):=by
 have hmx:=mx_eq
 have hat:=fun n h=>l2DrawAtomV bs n p hb hl h hp
 have hsm:=fun n h=>l2SmallV bs n p hb hl hp hp2 h
 have hKS:=KS_ge d
 have hKS2:=KS_le d hd
 generalize hR:stR bs n d=R
 obtain ⟨vs,ar,bd⟩:=p
 have hp:vs.length≤mx:=hp
 have hp2:ar.length≤mx:=hp2
 refine dcZ Tryz.func94 ?_
 simp only [go_sem,rdr]
 (with_reducible and_intros)<;>try exact sd
 refine XK.callG [0,193] (numO bs n [1,1,2,3,4,1,3,5] hb hl (by omega) (by decide) (by decide)) ok20 (hhp2 rfl rfl) (hbT ()) (fun d h' ⟨_,_,_,e⟩=>by subst e;simp) ?_
 rintro _ _ ⟨kv,rfl,hkv,rfl⟩ _
 simp only [List.mem_cons,List.not_mem_nil,or_false] at hkv
 have hk:kv=2∧0<ar.length∨kv=3∧0<d∨kv=4∧0<d∨(kv=1∨kv=5∨kv=2∧ar.length=0∨kv=3∧d=0∨kv=4∧d=0):=by omega
 clear hkv
 rcases hk with ⟨rfl,hal⟩ | ⟨rfl,hdl⟩ | ⟨rfl,hdl⟩ | hk
 ·have e1:((0:Int)<(ar.length:Int))=True:=eq_true (by omega)
  iterate 5 (try (refine drvZ Tryz.func94 ?_;simp only [go_sem,rdr,e1]))
  refine XK.callG [0] (pick bs (n+1) ar.length hb hl (by omega) (by simp only [InK];omega)) ok16 (hhp_one rfl) (hbT ()) (fun d h' ⟨v,_,_,e⟩=>by subst e;simp) ?_
  rintro _ _ ⟨v1,rfl,hv1,rfl⟩ _
  iterate 2 (try (refine drvZ Tryz.func94 ?_;simp only [go_sem,rdr]))
  refine XK.callG [0] (hat (n+2) (by omega)) ok115 (hhp_one rfl) (hbT ()) (fun d h' ⟨_,_,_,_,_,_,e⟩=>by subst e;simp) ?_
  rintro _ _ ⟨⟨k1,w1,ks1⟩,rfl,he1,n1,hn1,hm1,rfl⟩ _
  iterate 2 (try (refine drvZ Tryz.func94 ?_;simp only [go_sem,rdr]))
  refine XK.callG [0] (hsm n1 (by omega)) ok116 (hhp_one rfl) (hbT ()) (fun d h' ⟨_,_,_,_,_,_,e⟩=>by subst e;simp) ?_
  rintro _ _ ⟨⟨k2,w2,ks2⟩,rfl,he2,n2,hn2,hm2,rfl⟩ _
  iterate 2 (try (refine drvZ Tryz.func94 ?_;simp only [go_sem,rdr]))
  refine RetOb.ofQ (fun j=>if j=0 then some 0 else none) [] (.agg (St1.cells (.mk 2 v1 (.mk k1 w1 ks1) (.mk k2 w2 ks2) 0 [] []))) [some (rdr bs n2)] ?_ ?_ (by simp)
  ·simp [enumL,hOf,DM,DMs,CM,CMs,HpOK,LowOK,upd,Ex.cells,Ex.cellsL,St1.cells,St1.cellsL,rdr,kf]
  ·rw [← hR];exact ⟨.mk 2 v1 (.mk k1 w1 ks1) (.mk k2 w2 ks2) 0 [] [],rfl,SmS.leaf (SmE.atom he1) he2,n2,by omega,by omega,rfl⟩
 ·obtain ⟨d',rfl⟩:∃ d',d=d' + 1:=⟨d - 1,by omega⟩
  have hKK:KS (d' + 1)=1200+8 * KS d':=rfl
  have e1:((1:Int)<((d':Int)+1+1))=True:=eq_true (by omega)
  iterate 5 (try (refine drvZ Tryz.func94 ?_;simp only [go_sem,rdr,e1]))
  refine XK.callG [0] (hsm (n+1) (by omega)) ok116 (hhp_one rfl) (hbT ()) (fun d h' ⟨_,_,_,_,_,_,e⟩=>by subst e;simp) ?_
  rintro _ _ ⟨⟨k2,w2,ks2⟩,rfl,he2,n2,hn2,hm2,rfl⟩ _
  iterate 2 (try (refine drvZ Tryz.func94 ?_;simp only [go_sem,rdr]))
  (with_reducible and_intros)<;>try exact sd
  refine XK.callG [0,2305] (numO bs n2 [1,2,1,0] hb hl (by omega) (by decide) (by decide)) ok20 (hhp2 rfl rfl) (hbT ()) (fun d h' ⟨_,_,_,e⟩=>by subst e;simp) ?_ (fun _=>⟨by kernel_rfl,_,_,⟨1,rfl,by simp,rfl⟩,by simp⟩)
  rintro _ _ ⟨nv,rfl,hnv,rfl⟩ _
  iterate 2 (try (refine drvZ Tryz.func94 ?_;simp only [go_sem,rdr]))
  (with_reducible and_intros)<;>try exact sd
  obtain ⟨nn1,rfl,hnn1⟩:∃ a:Nat,nv=(a:Int)∧a≤4:=⟨nv.toNat,by simp at hnv;omega,by simp at hnv;omega⟩
  refine XK.callG [0] (ih d' rfl (n2+1) nn1 hnn1 (by omega)) ok69 (hhp_one rfl) (hbT ()) (fun d h' ⟨_,_,_,_,_,_,_,e⟩=>by subst e;simp) ?_ (fun _=>⟨by kernel_rfl,_,_,⟨[],rfl,by simp,by simp,(n2+1),by omega,by omega,rfl⟩,by simp⟩)
  rintro _ _ ⟨l1,rfl,hl1,hs1,m1,hp1,hq1,rfl⟩ _
  iterate 3 (try (refine drvZ Tryz.func94 ?_;simp only [go_sem,rdr]))
  (with_reducible and_intros)<;>try exact sd
  refine XK.callG [0,2945] (numO bs m1 [0,1,0,2] hb hl (by omega) (by decide) (by decide)) ok20 (hhp2 rfl rfl) (hbT ()) (fun d h' ⟨_,_,_,e⟩=>by subst e;simp) ?_ (fun _=>⟨by kernel_rfl,_,_,⟨1,rfl,by simp,rfl⟩,by simp⟩)
  rintro _ _ ⟨nv,rfl,hnv,rfl⟩ _
  iterate 2 (try (refine drvZ Tryz.func94 ?_;simp only [go_sem,rdr]))
  (with_reducible and_intros)<;>try exact sd
  obtain ⟨nn3,rfl,hnn3⟩:∃ a:Nat,nv=(a:Int)∧a≤4:=⟨nv.toNat,by simp at hnv;omega,by simp at hnv;omega⟩
  refine XK.callG [0] (ih d' rfl (m1+1) nn3 hnn3 (by omega)) ok69 (hhp_one rfl) (hbT ()) (fun d h' ⟨_,_,_,_,_,_,_,e⟩=>by subst e;simp) ?_ (fun _=>⟨by kernel_rfl,_,_,⟨[],rfl,by simp,by simp,(m1+1),by omega,by omega,rfl⟩,by simp⟩)
  rintro _ _ ⟨l3,rfl,hl3,hs3,m3,hp3,hq3,rfl⟩ _
  iterate 3 (try (refine drvZ Tryz.func94 ?_;simp only [go_sem,rdr]))
  (with_reducible and_intros)<;>try exact sd
  refine RetOb.ofQ (fun j=>if j=0 then some 0 else none) [] (.agg (St1.cells (.mk 3 0 Ex0 (.mk k2 w2 ks2) 0 l1 l3))) [some (rdr bs m3)] ?_ ?_ (by simp)
  ·simp [enumL,hOf,DM,DMs,CM,CMs,HpOK,LowOK,upd,Ex.cells,Ex.cellsL,St1.cells,St1.cellsL,Ex0,rdr,kf]
  ·rw [← hR];exact ⟨.mk 3 0 Ex0 (.mk k2 w2 ks2) 0 l1 l3,rfl,⟨SmE0,he2,hl1,hl3,hs1,hs3⟩,m3,by omega,by omega,rfl⟩
 ·obtain ⟨d',rfl⟩:∃ d',d=d' + 1:=⟨d - 1,by omega⟩
  have hKK:KS (d' + 1)=1200+8 * KS d':=rfl
  have e1:((1:Int)<((d':Int)+1+1))=True:=eq_true (by omega)
  iterate 9 (try (refine drvZ Tryz.func94 ?_;simp only [go_sem,rdr,e1]))
  (with_reducible and_intros)<;>try exact sd
  refine XK.callG [0,2177] (numO bs (n+1) [2,1,3] hb hl (by omega) (by decide) (by decide)) ok20 (hhp2 rfl rfl) (hbT ()) (fun d h' ⟨_,_,_,e⟩=>by subst e;simp) ?_ (fun _=>⟨by kernel_rfl,_,_,⟨1,rfl,by simp,rfl⟩,by simp⟩)
  rintro _ _ ⟨cv,rfl,hcv,rfl⟩ _
  iterate 3 (try (refine drvZ Tryz.func94 ?_;simp only [go_sem,rdr]))
  (with_reducible and_intros)<;>try exact sd
  refine XK.callG [0,2753] (numO bs (n+2) [1,2,1] hb hl (by omega) (by decide) (by decide)) ok20 (hhp2 rfl rfl) (hbT ()) (fun d h' ⟨_,_,_,e⟩=>by subst e;simp) ?_ (fun _=>⟨by kernel_rfl,_,_,⟨1,rfl,by simp,rfl⟩,by simp⟩)
  rintro _ _ ⟨nv,rfl,hnv,rfl⟩ _
  iterate 2 (try (refine drvZ Tryz.func94 ?_;simp only [go_sem,rdr]))
  (with_reducible and_intros)<;>try exact sd
  obtain ⟨nn1,rfl,hnn1⟩:∃ a:Nat,nv=(a:Int)∧a≤4:=⟨nv.toNat,by simp at hnv;omega,by simp at hnv;omega⟩
  refine XK.callG [0] (ih d' rfl (n+3) nn1 hnn1 (by omega)) ok69 (hhp_one rfl) (hbT ()) (fun d h' ⟨_,_,_,_,_,_,_,e⟩=>by subst e;simp) ?_ (fun _=>⟨by kernel_rfl,_,_,⟨[],rfl,by simp,by simp,(n+3),by omega,by omega,rfl⟩,by simp⟩)
  rintro _ _ ⟨l1,rfl,hl1,hs1,m1,hp1,hq1,rfl⟩ _
  iterate 3 (try (refine drvZ Tryz.func94 ?_;simp only [go_sem,rdr]))
  (with_reducible and_intros)<;>try exact sd
  refine RetOb.ofQ (fun j=>if j=0 then some 0 else none) [] (.agg (St1.cells (.mk 4 0 Ex0 Ex0 cv l1 []))) [some (rdr bs m1)] ?_ ?_ (by simp)
  ·simp [enumL,hOf,DM,DMs,CM,CMs,HpOK,LowOK,upd,Ex.cells,Ex.cellsL,St1.cells,St1.cellsL,Ex0,rdr,kf]
  ·rw [← hR];exact ⟨.mk 4 0 Ex0 Ex0 cv l1 [],rfl,⟨SmE0,SmE0,hl1,by simp,hs1,by simp⟩,m1,by omega,by omega,rfl⟩
 ·rcases hk with rfl | rfl | ⟨rfl,ha0⟩ | ⟨rfl,rfl⟩ | ⟨rfl,rfl⟩
  ·skip
   iterate 10 (try (refine drvZ Tryz.func94 ?_;simp only [go_sem,rdr]))
   refine XK.callG [0] (pick bs (n+1) vs.length hb hl (by omega) (by simp only [InK];omega)) ok16 (hhp_one rfl) (hbT ()) (fun d h' ⟨v,_,_,e⟩=>by subst e;simp) ?_
   rintro _ _ ⟨v1,rfl,hv1,rfl⟩ _
   iterate 2 (try (refine drvZ Tryz.func94 ?_;simp only [go_sem,rdr]))
   refine XK.callG [0] (hsm (n+2) (by omega)) ok116 (hhp_one rfl) (hbT ()) (fun d h' ⟨_,_,_,_,_,_,e⟩=>by subst e;simp) ?_
   rintro _ _ ⟨⟨k2,w2,ks2⟩,rfl,he2,n2,hn2,hm2,rfl⟩ _
   iterate 2 (try (refine drvZ Tryz.func94 ?_;simp only [go_sem,rdr]))
   refine RetOb.ofQ (fun j=>if j=0 then some 0 else none) [] (.agg (St1.cells (.mk 1 v1 Ex0 (.mk k2 w2 ks2) 0 [] []))) [some (rdr bs n2)] ?_ ?_ (by simp)
   ·simp [enumL,hOf,DM,DMs,CM,CMs,HpOK,LowOK,upd,Ex.cells,Ex.cellsL,St1.cells,St1.cellsL,Ex0,rdr,kf]
   ·rw [← hR];exact ⟨.mk 1 v1 Ex0 (.mk k2 w2 ks2) 0 [] [],rfl,SmS.leaf SmE0 he2,n2,by omega,by omega,rfl⟩
  ·skip
   iterate 10 (try (refine drvZ Tryz.func94 ?_;simp only [go_sem,rdr]))
   refine XK.callG [0] (pick bs (n+1) vs.length hb hl (by omega) (by simp only [InK];omega)) ok16 (hhp_one rfl) (hbT ()) (fun d h' ⟨v,_,_,e⟩=>by subst e;simp) ?_
   rintro _ _ ⟨v1,rfl,hv1,rfl⟩ _
   iterate 2 (try (refine drvZ Tryz.func94 ?_;simp only [go_sem,rdr]))
   refine XK.callG [0] (hsm (n+2) (by omega)) ok116 (hhp_one rfl) (hbT ()) (fun d h' ⟨_,_,_,_,_,_,e⟩=>by subst e;simp) ?_
   rintro _ _ ⟨⟨k2,w2,ks2⟩,rfl,he2,n2,hn2,hm2,rfl⟩ _
   iterate 2 (try (refine drvZ Tryz.func94 ?_;simp only [go_sem,rdr]))
   refine RetOb.ofQ (fun j=>if j=0 then some 0 else none) [] (.agg (St1.cells (.mk 5 v1 Ex0 (.mk k2 w2 ks2) 0 [] []))) [some (rdr bs n2)] ?_ ?_ (by simp)
   ·simp [enumL,hOf,DM,DMs,CM,CMs,HpOK,LowOK,upd,Ex.cells,Ex.cellsL,St1.cells,St1.cellsL,Ex0,rdr,kf]
   ·rw [← hR];exact ⟨.mk 5 v1 Ex0 (.mk k2 w2 ks2) 0 [] [],rfl,SmS.leaf SmE0 he2,n2,by omega,by omega,rfl⟩
  ·skip
   have e1:((0:Int)<(ar.length:Int))=False:=eq_false (by omega)
   iterate 10 (try (refine drvZ Tryz.func94 ?_;simp only [go_sem,rdr,e1]))
   refine XK.callG [0] (pick bs (n+1) vs.length hb hl (by omega) (by simp only [InK];omega)) ok16 (hhp_one rfl) (hbT ()) (fun d h' ⟨v,_,_,e⟩=>by subst e;simp) ?_
   rintro _ _ ⟨v1,rfl,hv1,rfl⟩ _
   iterate 2 (try (refine drvZ Tryz.func94 ?_;simp only [go_sem,rdr]))
   refine XK.callG [0] (hsm (n+2) (by omega)) ok116 (hhp_one rfl) (hbT ()) (fun d h' ⟨_,_,_,_,_,_,e⟩=>by subst e;simp) ?_
   rintro _ _ ⟨⟨k2,w2,ks2⟩,rfl,he2,n2,hn2,hm2,rfl⟩ _
   iterate 2 (try (refine drvZ Tryz.func94 ?_;simp only [go_sem,rdr]))
   refine RetOb.ofQ (fun j=>if j=0 then some 0 else none) [] (.agg (St1.cells (.mk 1 v1 Ex0 (.mk k2 w2 ks2) 0 [] []))) [some (rdr bs n2)] ?_ ?_ (by simp)
   ·simp [enumL,hOf,DM,DMs,CM,CMs,HpOK,LowOK,upd,Ex.cells,Ex.cellsL,St1.cells,St1.cellsL,Ex0,rdr,kf]
   ·rw [← hR];exact ⟨.mk 1 v1 Ex0 (.mk k2 w2 ks2) 0 [] [],rfl,SmS.leaf SmE0 he2,n2,by omega,by omega,rfl⟩
  ·simp only [Int.natCast_zero]
   have e1:((1:Int)<((0:Int)+1))=False:=eq_false (by omega)
   iterate 10 (try (refine drvZ Tryz.func94 ?_;simp only [go_sem,rdr,e1]))
   refine XK.callG [0] (pick bs (n+1) vs.length hb hl (by omega) (by simp only [InK];omega)) ok16 (hhp_one rfl) (hbT ()) (fun d h' ⟨v,_,_,e⟩=>by subst e;simp) ?_
   rintro _ _ ⟨v1,rfl,hv1,rfl⟩ _
   iterate 2 (try (refine drvZ Tryz.func94 ?_;simp only [go_sem,rdr]))
   refine XK.callG [0] (hsm (n+2) (by omega)) ok116 (hhp_one rfl) (hbT ()) (fun d h' ⟨_,_,_,_,_,_,e⟩=>by subst e;simp) ?_
   rintro _ _ ⟨⟨k2,w2,ks2⟩,rfl,he2,n2,hn2,hm2,rfl⟩ _
   iterate 2 (try (refine drvZ Tryz.func94 ?_;simp only [go_sem,rdr]))
   refine RetOb.ofQ (fun j=>if j=0 then some 0 else none) [] (.agg (St1.cells (.mk 1 v1 Ex0 (.mk k2 w2 ks2) 0 [] []))) [some (rdr bs n2)] ?_ ?_ (by simp)
   ·simp [enumL,hOf,DM,DMs,CM,CMs,HpOK,LowOK,upd,Ex.cells,Ex.cellsL,St1.cells,St1.cellsL,Ex0,rdr,kf]
   ·rw [← hR];exact ⟨.mk 1 v1 Ex0 (.mk k2 w2 ks2) 0 [] [],rfl,SmS.leaf SmE0 he2,n2,by omega,by omega,rfl⟩
  ·simp only [Int.natCast_zero]
   have e1:((1:Int)<((0:Int)+1))=False:=eq_false (by omega)
   iterate 10 (try (refine drvZ Tryz.func94 ?_;simp only [go_sem,rdr,e1]))
   refine XK.callG [0] (pick bs (n+1) vs.length hb hl (by omega) (by simp only [InK];omega)) ok16 (hhp_one rfl) (hbT ()) (fun d h' ⟨v,_,_,e⟩=>by subst e;simp) ?_
   rintro _ _ ⟨v1,rfl,hv1,rfl⟩ _
   iterate 2 (try (refine drvZ Tryz.func94 ?_;simp only [go_sem,rdr]))
   refine XK.callG [0] (hsm (n+2) (by omega)) ok116 (hhp_one rfl) (hbT ()) (fun d h' ⟨_,_,_,_,_,_,e⟩=>by subst e;simp) ?_
   rintro _ _ ⟨⟨k2,w2,ks2⟩,rfl,he2,n2,hn2,hm2,rfl⟩ _
   iterate 2 (try (refine drvZ Tryz.func94 ?_;simp only [go_sem,rdr]))
   refine RetOb.ofQ (fun j=>if j=0 then some 0 else none) [] (.agg (St1.cells (.mk 1 v1 Ex0 (.mk k2 w2 ks2) 0 [] []))) [some (rdr bs n2)] ?_ ?_ (by simp)
   ·simp [enumL,hOf,DM,DMs,CM,CMs,HpOK,LowOK,upd,Ex.cells,Ex.cellsL,St1.cells,St1.cellsL,Ex0,rdr,kf]
   ·rw [← hR];exact ⟨.mk 1 v1 Ex0 (.mk k2 w2 ks2) 0 [] [],rfl,SmS.leaf SmE0 he2,n2,by omega,by omega,rfl⟩
theorem drawsV (bs:List Int) (p:Lv) (hb:Fits .u8 bs) (hl:bs.length≤2000) (hp:p.vars.length≤mx) (hp2:p.arrays.length≤mx):∀ (d:Nat),d≤3 →
 (∀ n:Nat,n+KS d≤549755813888→DC Tryz.prog 94 [.c (.ptr 0 0),.agg p.cells,DI .i64 (d+1:Nat)] [some (rdr bs n)] (stR bs n d)) ∧
 (∀ (n nn : Nat), nn ≤ 4 → n + 4 * KS d ≤ 549755813888 → DC Tryz.prog 69 [.c (.ptr 0 0), .agg p.cells, DI .i64 (d + 1 : Nat), DI .i64 nn] [some (rdr bs n)]
  (fun r h=>∃ l:List St1,r = .c (.isl 11 (St1.cellsL l))∧l.length≤4∧(∀ s ∈ l,SmS d s)∧rdL bs n (4 * KS d) h)):=by
 intro d
 induction d with
 | zero =>
  intro hd
  have hs:=fun n h=>l2DrawStmtOfV bs p hb hl hp hp2 0 hd (fun d' e=>by omega) n h
  exact ⟨hs,fun n nn h1 h2=>l2DrawBlockOfV bs p ((0+1:Nat):Int) (SmS 0) (KS 0) (by decide) hs n nn h1 h2⟩
 | succ d ih =>
  intro hd
  have hs:=fun n h=>l2DrawStmtOfV bs p hb hl hp hp2 (d+1) hd (fun d' e=>by
   obtain rfl:d=d':=by omega
   exact (ih (by omega)).2) n h
  exact ⟨hs,fun n nn h1 h2=>l2DrawBlockOfV bs p ((d+1+1:Nat):Int) (SmS (d+1)) (KS (d+1)) (Nat.le_trans (KS_le _ hd) (by decide)) hs n nn h1 h2⟩
end Go.Proofs.YtoakidkcppinpaaGreat.CtD
