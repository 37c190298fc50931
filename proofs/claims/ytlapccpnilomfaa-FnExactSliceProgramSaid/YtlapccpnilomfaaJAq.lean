/- Contracts of functions of the program, one behind the other, as plain data: what each call returns and which blocks it leaves. -/
import Derived.Test.YtlapccpnilomfaaJFacts
import Derived.Test.YtlapccpnilomfaaJAp
import Derived.Test.YtlapccpnilomfaaJAn
set_option linter.unusedVariables false
set_option linter.unusedSimpArgs false
set_option linter.unusedSectionVars false
set_option maxHeartbeats 16000000
set_option maxRecDepth 100000
namespace Go.Proofs.Ytlapccpnilomfaa.CtR
open Go Go.CT CtF
variable [Yn]
theorem l2Stmt0 (p:Pg) (s:St1):DC Try.prog 52 [.agg p.cells,.agg s.cells,DI .i64 (0:Nat)] [] (fun r h=>r=DB (stmtOK p 0 s)∧h=[]):=by
 obtain ⟨vs,ar,bd⟩:=p
 obtain ⟨k,t,⟨ik,iv,iks⟩,⟨vk,vv,vks⟩,c,b,e⟩:=s
 refine dc_of_go Try.func52 rfl (by simp) ?_
 refine drv_sound (n:=100) (rs:=_) Try.func52 mo rfl none _ _ ?_
 simp only [go_sem]
 refine XK.gskip 2 false (DB false) ?_
 refine drv_sound (n:=100) (rs:=_) Try.func52 mo rfl (some _) _ _ ?_
 simp only [go_sem]
 exact RetOb.plain (d:=DB false) ⟨rfl,rfl⟩ rfl
theorem l2StmtOf (p : Pg) (hl : p.vars.length ≤ mx) (hl2 : p.arrays.length ≤ mx) (d : Nat) (hd : d + 1 ≤ 5)
 (ih:∀ l,lsize d l≤1099511627776→DC Try.prog 37 [.agg p.cells,.c (.isl 11 (St1.cellsL l)),DI .i64 d] [] (fun r h=>r=DB (l.all (stmtOK p d))∧h=[]))
 (s:St1) (hs:tsize (d+1) s≤1099511627776) :
 DC Try.prog 52 [.agg p.cells,.agg s.cells,DI .i64 (d+1:Nat)] [] (fun r h=>r=DB (stmtOK p (d+1) s)∧h=[]):=by
 obtain ⟨vs,ar,bd⟩:=p
 obtain ⟨k,t,⟨ik,iv,iks⟩,⟨vk,vv,vks⟩,c,b,e⟩:=s
 have hsb:lsize d b≤1099511627776:=by simp only [tsize] at hs;unfold lsize;omega
 have hse:lsize d e≤1099511627776:=by simp only [tsize] at hs;unfold lsize;omega
 have hd1:((d:Int)+1<1)=False:=eq_false (by omega)
 generalize hB:stmtOK _ _ _=B
 simp only [stmtOK,headOK] at hB
 have hp:=l2Parts (.mk k t (.mk ik iv iks) (.mk vk vv vks) c b e)
 simp only [St1.kind,St1.target,St1.index,St1.value,St1.count,St1.body,St1.els] at hp
 generalize hP:parts _ _ _ _ _ _ _=PB at hp hB
 have hr:=fun x=>l2Right ⟨vs,ar,bd⟩ x hl hl2
 refine dc_of_go Try.func52 rfl (by simp) ?_
 refine drv_sound (n:=100) (rs:=_) Try.func52 mo rfl none _ _ ?_
 simp only [go_sem]
 refine XK.gplain 2 false (!(decide ((d:Int)+1<1))) (fun _=>hp) ok59 ?_ (hok:=by intro hx;simp [okP,getCall,Call.operands,evT,upd,peelB,DB,DI,cst,one] at hx ⊢;first | done | exact hx | (simp_all;done) | omega)
 have hyes:PB=false∨PB=true:=by cases PB<;>simp
 rcases hyes with hno | hyes
 ·subst hno
  refine drv_sound (n:=100) (rs:=_) Try.func52 mo rfl (some _) _ _ ?_
  simp only [go_sem,hd1]
  refine RetOb.plain (d:=DB false) ⟨?_,rfl⟩ rfl
  rw [← hB];rfl
 subst hyes
 have hB':=hB
 rcases (by omega:k=1∨k=5∨k=2∨k=3∨k=4∨(k ≠ 1∧k ≠ 5∧k ≠ 2∧k ≠ 3∧k ≠ 4)) with hk | hk | hk | hk | hk | ⟨h1,h5,h2,h3,h4⟩
 iterate 2
  ·subst hk
   refine drv_sound (n:=100) (rs:=_) Try.func52 mo rfl (some _) _ _ ?_
   simp only [go_sem,hd1]
   refine XK.gplain 11 true (decide (0≤t) && decide (t<vs.length)) (fun _=>hr (.mk vk vv vks)) ok60 ?_ (hbT ())
   refine drv_sound (n:=100) (rs:=_) Try.func52 mo rfl (some _) _ _ ?_
   simp only [go_sem]
   refine RetOb.plain (d:=DB _) ⟨?_,rfl⟩ rfl
   rw [← hB]
   simp only [DB];congr 3
   have hbe:parts _ t (.mk ik iv iks) (.mk vk vv vks) c b.length e.length=true:=hP
   simp [parts,blk] at hbe
   have hb0:b=[]:=by cases b<;>simp_all
   have he0:e=[]:=by cases e<;>simp_all
   subst hb0 he0
   simp
 ·subst hk
  refine drv_sound (n:=100) (rs:=_) Try.func52 mo rfl (some _) _ _ ?_
  simp only [go_sem,hd1]
  refine XK.gplain 11 true (decide (0≤t) && decide (t<ar.length)) (fun _=>hr (.mk ik iv iks)) ok60 ?_ (hbT ())
  refine drv_sound (n:=100) (rs:=_) Try.func52 mo rfl (some _) _ _ ?_
  simp only [go_sem]
  refine XK.gplain 17 true (decide (0≤t) && decide (t<ar.length) && right ⟨vs,ar,bd⟩ (.mk ik iv iks)) (fun _=>l2Atom (.mk ik iv iks)) ok61 ?_ (hbT ())
  refine drv_sound (n:=100) (rs:=_) Try.func52 mo rfl (some _) _ _ ?_
  simp only [go_sem]
  refine XK.gplain 22 true (decide (0≤t) && decide (t<ar.length) && right ⟨vs,ar,bd⟩ (.mk ik iv iks) && atom (.mk ik iv iks)) (fun _=>hr (.mk vk vv vks)) ok60 ?_ (hbT ())
  refine drv_sound (n:=100) (rs:=_) Try.func52 mo rfl (some _) _ _ ?_
  simp only [go_sem]
  refine RetOb.plain (d:=DB _) ⟨?_,rfl⟩ rfl
  rw [← hB]
  simp only [DB];congr 3
  have hbe:parts _ t (.mk ik iv iks) (.mk vk vv vks) c b.length e.length=true:=hP
  simp [parts,blk] at hbe
  have hb0:b=[]:=by cases b<;>simp_all
  have he0:e=[]:=by cases e<;>simp_all
  subst hb0 he0
  simp
 ·subst hk
  refine drv_sound (n:=100) (rs:=_) Try.func52 mo rfl (some _) _ _ ?_
  simp only [go_sem,hd1]
  refine XK.plain (hr (.mk vk vv vks)) ok60 ?_ (hbT ())
  refine drv_sound (n:=100) (rs:=_) Try.func52 mo rfl (some _) _ _ ?_
  simp only [go_sem]
  refine ⟨fun h=>⟨h,by simp only [InK];omega⟩,?_⟩
  refine XK.gplain 4 true (right ⟨vs,ar,bd⟩ (.mk vk vv vks)) (fun _=>ih b hsb) ok37 ?_ (hbT ())
  refine drv_sound (n:=100) (rs:=_) Try.func52 mo rfl (some _) _ _ ?_
  simp only [go_sem]
  refine ⟨fun h=>⟨h,by simp only [InK];omega⟩,?_⟩
  refine XK.gplain 12 true (right ⟨vs,ar,bd⟩ (.mk vk vv vks) && b.all (stmtOK ⟨vs,ar,bd⟩ d)) (fun _=>ih e hse) ok37 ?_ (hbT ())
  refine drv_sound (n:=100) (rs:=_) Try.func52 mo rfl (some _) _ _ ?_
  simp only [go_sem]
  refine RetOb.plain (d:=DB _) ⟨?_,rfl⟩ rfl
  rw [← hB]
  simp [DB]
 ·subst hk
  refine drv_sound (n:=100) (rs:=_) Try.func52 mo rfl (some _) _ _ ?_
  simp only [go_sem,hd1]
  (with_reducible and_intros)<;>try exact sd
  refine XK.plain (ih b hsb) ok37 ?_ (hbT ())
  refine drv_sound (n:=100) (rs:=_) Try.func52 mo rfl (some _) _ _ ?_
  simp only [go_sem]
  refine RetOb.plain (d:=DB _) ⟨?_,rfl⟩ rfl
  rw [← hB]
  have hbe:parts _ t (.mk ik iv iks) (.mk vk vv vks) c b.length e.length=true:=hP
  simp [parts,blk] at hbe
  have he0:e=[]:=by cases e<;>simp_all
  subst he0
  simp [DB]
 ·have e1:(k == 1)=false:=by simp [h1]
  have e2:(k == 2)=false:=by simp [h2]
  have e3:(k == 3)=false:=by simp [h3]
  have e4:(k == 4)=false:=by simp [h4]
  have e5:(k == 5)=false:=by simp [h5]
  refine drv_sound (n:=100) (rs:=_) Try.func52 mo rfl (some _) _ _ ?_
  simp only [go_sem,hd1,e1,e2,e3,e4,e5,h1,h2,h3,h4,h5]
  refine RetOb.plain (d:=DB false) ⟨?_,rfl⟩ rfl
  rw [← hB]
  simp [DB,h1,h2,h3,h4,h5]
theorem l2Both (p : Pg) (hl : p.vars.length ≤ mx) (hl2 : p.arrays.length ≤ mx) : ∀ d : Nat, d ≤ 5 → ∀ l, lsize d l ≤ 1099511627776 → DC Try.prog 37 [.agg p.cells, .c (.isl 11 (St1.cellsL l)), DI .i64 d] [] (fun r h => r = DB (l.all (stmtOK p d)) ∧ h = [])
 | 0,h5,l,h=>l2BlockOf p 0 h5 (fun s _=>l2Stmt0 p s) l h
 | d+1,h5,l,h=>l2BlockOf p (d+1) h5 (fun s hs=>l2StmtOf p hl hl2 d h5 (fun l' h'=>l2Both p hl hl2 d (by omega) l' h') s hs) l h
def subs (d:Nat) (s:St1):Nat:=lsize d s.body+lsize d s.els
theorem tsize_subs (d:Nat) (s:St1):tsize (d+1) s=1+subs d s:=by cases s;simp [tsize,subs,lsize,St1.body,St1.els];omega
theorem lsize_subs (d:Nat) (l:List St1):lsize (d+1) l=l.length+(l.map (subs d)).sum:=by
 unfold lsize
 induction l with
 | nil=>rfl
 | cons a r ih=>simp only [List.map_cons,List.sum_cons,List.length_cons,tsize_subs,ih];omega
theorem lsize_zero (l:List St1):lsize 0 l=0:=by
 unfold lsize
 induction l with
 | nil=>rfl
 | cons a r ih=>simp only [List.map_cons,List.sum_cons,ih];rfl
theorem subs_zero (s:St1):subs 0 s=0:=by simp [subs,lsize_zero]
theorem tsum_subs_zero (l:List St1) (i:Nat):tsum (subs 0) l i=0:=by
 unfold tsum
 induction (l.take i) with
 | nil=>rfl
 | cons a r ih=>rw [List.map_cons,List.sum_cons,subs_zero,ih]
theorem l2Size:∀ (d:Nat),d+1≤5→∀ l,lsize (d+1) l≤1099511627776→DC Try.prog 38 [.c (.isl 11 (St1.cellsL l)),DI .i64 (d+1:Nat)] [] (fun r h=>r=DI .i64 (lsize (d+1) l)∧h=[]):=by
 intro d
 induction d using Nat.strongRecOn with
 | _ d ih =>
  intro hd l hl
  have hls:=lsize_subs d l
  refine dc_of_go Try.func38 rfl (by simp) ?_
  refine drv_sound (n:=100) (rs:=_) Try.func38 mo rfl none _ _ ?_
  simp only [go_sem]
  refine Go.loopL (fun i:Nat=>[(0,.c (.isl 11 (St1.cellsL l))),(1,DI .i64 (d+1:Nat)),(5,DI .i64 (l.length+tsum (subs d) l i:Nat)),(6,DI .i64 i)]) (fun _=>[]) 1024 (fun i=>i≤l.length) (fun i=>l.length - i) ?_ 0 some [] _ (Nat.zero_le _) ?_
  ·intro i hi again
   have ht:=tsum_le (subs d) l i
   have ret:∀ (n:Nat) (hp:Hp),n=lsize (d+1) l→RetOb 0 (fun r h=>r=DI .i64 (lsize (d+1) l)∧h=[]) (DI .i64 n) hp:=fun n hp h=>RetOb.plain (d:=DI .i64 _) ⟨by rw [h],rfl⟩ rfl
   refine drv_sound (n:=100) (rs:=_) Try.func38 mo rfl none _ _ ?_
   rcases Nat.lt_or_ge i l.length with hlt | hge
   ·cases d with
    | zero =>
     simp only [go_sem,hlt,Int.natCast_zero]
     refine ret _ _ ?_
     rw [hls,tsum_subs_zero]
     rw [← tsum_all (subs 0) l (Nat.le_refl _),tsum_subs_zero]
    | succ d =>
     obtain ⟨⟨k,t,⟨ik,iv,iks⟩,⟨vk,vv,vks⟩,c,b,e⟩,hx⟩:∃ x,l[i]? = some x:=⟨l[i],by simp [hlt]⟩
     have hd1:(1<((d:Int)+1)+1)=True:=eq_true (by omega)
     have hs:=tsum_succ (subs (d+1)) l i _ hx
     have ht2:=tsum_le (subs (d+1)) l (i+1)
     simp only [subs,St1.body,St1.els] at hs
     simp only [go_sem,hx,hlt,hd1]
     (with_reducible and_intros)<;>try exact sd
     refine XK.plain (ih d (by omega) (by omega) b (by omega)) ok38 ?_ (hbT ()) (fun _=>by kernel_rfl)
     refine drv_sound (n:=100) (rs:=_) Try.func38 mo rfl (some _) _ _ ?_
     simp only [go_sem,hx]
     (with_reducible and_intros)<;>try exact sd
     refine XK.plain (ih d (by omega) (by omega) e (by omega)) ok38 ?_ (hbT ()) (fun _=>by kernel_rfl)
     refine drv_sound (n:=100) (rs:=_) Try.func38 mo rfl (some _) _ _ ?_
     simp only [go_sem,hx]
     (with_reducible and_intros)<;>try exact sd
     refine again (i+1) some [] _ (by omega) (by omega) (Mt.slots ?_)
     simp only [go_sem,TmOK,DM,DMs,CM,CMs,forall_eq,exists_eq_left,hs]
     congr 1;omega
   ·have hn:¬ i<l.length:=by omega
    simp only [go_sem,hn]
    refine ret _ _ ?_
    rw [hls,tsum_all _ _ hge]
  ·refine Mt.slots ?_
   simp only [go_sem,TmOK,DM,DMs,CM,CMs,forall_eq,exists_eq_left]
   rfl
def progOK (p:Pg):Bool:=headsOK p.vars p.arrays && p.body.all (stmtOK p 5) && decide ((lsize 5 p.body:Int)≤60)
theorem programValidS (p:Pg) (hl:p.vars.length≤mx) (hl2:p.arrays.length≤mx) (hb:lsize 5 p.body≤1099511627776):DC Try.prog 16 [.agg p.cells] [] (fun r h=>r=DB (progOK p)∧h=[]):=by
 obtain ⟨vs,ar,bd⟩:=p
 refine dc_of_go Try.func16 rfl (by simp) ?_
 refine drv_sound (n:=100) (rs:=_) Try.func16 mo rfl none _ _ ?_
 simp only [go_sem]
 refine XK.plain (l2Heads ⟨vs,ar,bd⟩ hl hl2) ok36 ?_ (hbT ())
 refine drv_sound (n:=100) (rs:=_) Try.func16 mo rfl (some _) _ _ ?_
 simp only [go_sem]
 refine XK.gplain 2 true (headsOK vs ar) (fun _=>l2Both ⟨vs,ar,bd⟩ hl hl2 5 (by omega) bd hb) ok37 ?_ (hbT ()) (hok:=by intro hx;simp [okP,getCall,Call.operands,evT,upd,peelB,DB,DI,cst,one] at hx ⊢;first | done | exact hx | (simp_all;done) | omega)
 refine drv_sound (n:=100) (rs:=_) Try.func16 mo rfl (some _) _ _ ?_
 simp only [go_sem]
 refine XK.gplain 8 true (headsOK vs ar && bd.all (stmtOK ⟨vs,ar,bd⟩ 5)) (fun _=>l2Size 4 (by omega) bd hb) ok38 ?_ (hbT ()) (hok:=by intro hx;simp [okP,getCall,Call.operands,evT,upd,peelB,DB,DI,cst,one] at hx ⊢;first | done | exact hx | (simp_all;done) | omega)
 refine drv_sound (n:=100) (rs:=_) Try.func16 mo rfl (some _) _ _ ?_
 simp only [go_sem]
 refine RetOb.plain (d:=DB _) ⟨?_,rfl⟩ rfl
 simp [DB,progOK]
def okB (p:Pg) (d:Nat) (l:List St1) (c:Nat):Bool:=l.all (stmtOK p d) && decide (c+lsize d l≤60)
def okS (p:Pg) (d:Nat) (s:St1) (c:Nat):Bool:=stmtOK p d s && decide (c+tsize d s≤60)
def stmtsR (p:Pg) (d:Nat) (l:List St1) (c:Nat) (r:D) (h:List (Option (List C))):Prop:=∃ c':Nat,r=DB (okB p d l c)∧h=[some [I64 c']]∧c'≤61∧(okB p d l c=true→c'=c+lsize d l)
def stmtR (p:Pg) (d:Nat) (s:St1) (c:Nat) (r:D) (h:List (Option (List C))):Prop:=∃ c':Nat,r=DB (okS p d s c)∧h=[some [I64 c']]∧c'≤61∧(okS p d s c=true→c'=c+tsize d s)
theorem tsum_ge {α:Type} {f:α→Nat}:∀ {l:List α} {i:Nat},i≤l.length→(∀ x ∈ l.take i,1≤f x)→i≤tsum f l i:=by
 intro l i hi h
 have:=len_le_sum f (l.take i) h
 rw [List.length_take,Nat.min_eq_left hi] at this
 exact this
theorem okB_of {p:Pg} {d:Nat} {l:List St1} {c i:Nat} {x:St1} (hx:l[i]? = some x) (h:okS p d x (c+tsum (tsize d) l i)=false):false=okB p d l c:=by
 symm
 rw [Bool.eq_false_iff] at h ⊢
 intro h2
 apply h
 simp only [okB,okS,Bool.and_eq_true,decide_eq_true_eq,List.all_eq_true] at h2 ⊢
 refine ⟨h2.1 x (List.mem_of_getElem? hx),?_⟩
 have h3:=tsum_succ (tsize d) l i x hx
 have h4:=tsum_le (tsize d) l (i+1)
 have h5:=h2.2
 unfold lsize at h5
 omega
theorem stmtOK_pos {p:Pg} {d:Nat} {s:St1} (h:stmtOK p d s=true):1≤tsize d s:=by
 cases d with
 | zero=>simp [stmtOK] at h
 | succ d=>exact tsize_pos s
theorem stmtsOf (p : Pg) (d : Nat) (deep : Int) (hsum : deep + d = 6)
 (ih:∀ (s:St1) (c:Nat),c≤60→DC Try.prog 56 [.agg p.cells,.agg s.cells,DI .i64 deep,.c (.ptr 0 0)] [some [I64 c]] (stmtR p d s c))
 (l:List St1) (c:Nat) (hc:c≤60):DC Try.prog 43 [.agg p.cells,.c (.isl 11 (St1.cellsL l)),DI .i64 deep,.c (.ptr 0 0)] [some [I64 c]] (stmtsR p d l c):=by
 obtain ⟨vs,ar,bd⟩:=p
 have ret:∀ (b:Bool) (c':Nat) (hp:Hp),b=okB ⟨vs,ar,bd⟩ d l c→hp 0=some (some [I64 c'])→c'≤61→(b=true→c'=c+lsize d l)→RetOb 1 (stmtsR ⟨vs,ar,bd⟩ d l c) (DB b) hp :=
  fun b c' hp hb hhp h16 ht=>RetOb.keep1 (d:=DB b) (cs:=[I64 c']) ⟨c',by rw [hb],rfl,h16,by rw [← hb];exact ht⟩ hhp (by simp [kf]) rfl
 refine dc_of_go Try.func43 rfl (by simp) ?_
 refine drv_sound (n:=100) (rs:=_) Try.func43 mo rfl none _ _ ?_
 simp only [go_sem]
 refine Go.loopL (fun i:Nat=>[(2,DI .i64 deep),(3,.c (.ptr 0 0)),(4,.c (.ptr 1 0)),(11,.c (.isl 11 (St1.cellsL l))),(12,DI .i64 l.length),(13,DI .i64 i)]) (fun i=>[(0,some [I64 (c+tsum (tsize d) l i:Nat)]),(1,some (Pg.cells ⟨vs,ar,bd⟩))]) 65536 (fun i=>i≤l.length∧(∀ x ∈ l.take i,stmtOK ⟨vs,ar,bd⟩ d x=true)∧c+tsum (tsize d) l i≤60) (fun i=>l.length - i) ?_ 0 some [] _ ⟨Nat.zero_le _,by simp,by simp only [tsum_zero];omega⟩ ?_
 ·intro i ⟨hi,hall,hcnt⟩ again
  refine drv_sound (n:=100) (rs:=_) Try.func43 mo rfl none _ _ ?_
  rcases Nat.lt_or_ge i l.length with hlt | hge
  ·obtain ⟨⟨k,t,⟨ik,iv,iks⟩,⟨vk,vv,vks⟩,co,b,e⟩,hx⟩:∃ x,l[i]? = some x:=⟨l[i],by simp [hlt]⟩
   simp only [go_sem,hx,hlt]
   (with_reducible and_intros)<;>try exact sd
   refine XK.callG [0] (ih (.mk k t (.mk ik iv iks) (.mk vk vv vks) co b e) (c+tsum (tsize d) l i) hcnt) ok56 (hhp_one rfl) (hbT ()) (fun d h' ⟨c',_,e,_⟩=>by subst e;simp) ?_
   rintro _ h' ⟨c',rfl,rfl,hc61,htr⟩ _
   refine drv_sound (n:=100) (rs:=_) Try.func43 mo rfl (some _) _ _ ?_
   simp only [go_sem]
   refine ⟨fun hf=>ret _ c' _ (okB_of hx hf) (by simp [I64,upd_same]) hc61 (by simp),fun hf=>?_⟩
   have he:=htr hf
   have hs:=tsum_succ (tsize d) l i _ hx
   simp only [okS,Bool.and_eq_true,decide_eq_true_eq] at hf
   have hall2:=take_succ_mem hx hall hf.1
   have hge:=tsum_ge (f:=tsize d) (show i+1≤l.length from hlt) fun x hx=>stmtOK_pos (hall2 x hx)
   refine ⟨by simp only [InK];omega,?_⟩
   refine again (i+1) some [] _ ⟨by omega,hall2,by omega⟩ (by omega) ?_
   rw [show c'=c+tsum (tsize d) l (i+1) from by omega]
   simp only [go_sem,TmOK,DM,DMs,CM,CMs,forall_eq,exists_eq_left,Mt,HpOK,LowOK]
   simp
  ·have hn:¬ i<l.length:=by omega
   simp only [go_sem,hn]
   have e1:c+tsum (tsize d) l i=c+lsize d l:=by rw [tsum_all _ _ hge];rfl
   refine ret _ _ _ ?_ (by first | rfl | simp [I64,upd_same]) (by omega) (fun _=>e1)
   symm
   simp only [okB,Bool.and_eq_true,decide_eq_true_eq,List.all_eq_true]
   exact ⟨fun x hx=>hall x (by rw [List.take_of_length_le hge];exact hx),by omega⟩
 ·simp only [go_sem,TmOK,DM,DMs,CM,CMs,forall_eq,exists_eq_left,Mt,HpOK,LowOK,tsum_zero]
  simp
theorem okS_false {p:Pg} {d:Nat} {k t:Int} {ix v:Ex} {c:Int} {b e:List St1} {n:Nat} (h:headOK p k t ix v c b.length e.length=false):false=okS p (d+1) (.mk k t ix v c b e) n:=by
 simp [okS,stmtOK,h]
theorem okS_true {p : Pg} {d : Nat} {k t : Int} {ix v : Ex} {c : Int} {b e : List St1} {n : Nat} (h : headOK p k t ix v c b.length e.length = true) :
 okS p (d+1) (.mk k t ix v c b e) n=(okB p d b (n+1) && okB p d e (n+1+lsize d b)):=by
 have ht:tsize (d+1) (.mk k t ix v c b e)=1+lsize d b+lsize d e:=by simp [tsize,lsize]
 rw [okS,ht,stmtOK,h]
 simp only [okB,Bool.true_and]
 rw [Bool.eq_iff_iff]
 simp only [Bool.and_eq_true,decide_eq_true_eq]
 generalize lsize d b=x
 generalize lsize d e=y
 constructor
 ·rintro ⟨⟨h1,h2⟩,h3⟩;exact ⟨⟨h1,by omega⟩,h2,by omega⟩
 ·rintro ⟨⟨h1,h2⟩,h3,h4⟩;exact ⟨⟨h1,h3⟩,by omega⟩
theorem stmtOf (p : Pg) (hl : p.vars.length ≤ mx) (hl2 : p.arrays.length ≤ mx) (d : Nat) (deep : Int) (hdeep : 1 ≤ deep) (hsum : deep + (d + 1 : Nat) = 6)
 (ih:∀ (l:List St1) (c:Nat),c≤60→DC Try.prog 43 [.agg p.cells,.c (.isl 11 (St1.cellsL l)),DI .i64 (deep+1),.c (.ptr 0 0)] [some [I64 c]] (stmtsR p d l c))
 (s:St1) (n:Nat) (hn:n≤60):DC Try.prog 56 [.agg p.cells,.agg s.cells,DI .i64 deep,.c (.ptr 0 0)] [some [I64 n]] (stmtR p (d+1) s n):=by
 obtain ⟨vs,ar,bd⟩:=p
 have hl:vs.length≤mx:=hl
 have hl2:ar.length≤mx:=hl2
 have hmx:=mx_eq
 obtain ⟨k,t,⟨ik,iv,iks⟩,⟨vk,vv,vks⟩,c,b,e⟩:=s
 have ret:∀ (q:Bool) (c':Nat) (hp:Hp),q=okS ⟨vs,ar,bd⟩ (d+1) (.mk k t (.mk ik iv iks) (.mk vk vv vks) c b e) n→hp 0=some (some [I64 c'])→c'≤61→(q=true→c'=n+tsize (d+1) (.mk k t (.mk ik iv iks) (.mk vk vv vks) c b e)) →
  RetOb 1 (stmtR ⟨vs,ar,bd⟩ (d+1) (.mk k t (.mk ik iv iks) (.mk vk vv vks) c b e) n) (DB q) hp :=
  fun q c' hp hb hhp h16 ht=>RetOb.keep1 (d:=DB q) (cs:=[I64 c']) ⟨c',by rw [hb],rfl,h16,by rw [← hb];exact ht⟩ hhp (by simp [kf]) rfl
 have hd5:(5<deep)=False:=eq_false (by omega)
 have hx:=fun x=>expr ⟨vs,ar,bd⟩ x hl hl2
 by_cases hn60:n=60
 ·have h61:(60<(n:Int)+1)=True:=eq_true (by omega)
  refine dc_of_go Try.func56 rfl (by simp) ?_
  refine drv_sound (n:=100) (rs:=_) Try.func56 mo rfl none _ _ ?_
  simp only [go_sem,h61]
  refine ⟨by simp only [InK];omega,ret _ (n+1) _ ?_ (by simp [I64,upd_same]) (by omega) (by simp)⟩
  symm
  simp only [okS]
  rw [Bool.and_eq_false_iff]
  right
  have:=tsize_pos (d:=d) (.mk k t (.mk ik iv iks) (.mk vk vv vks) c b e)
  simp;omega
 have h61:(60<(n:Int)+1)=False:=eq_false (by omega)
 rcases (by omega:k=1∨k=5∨k=2∨k=3∨k=4∨(k ≠ 1∧k ≠ 5∧k ≠ 2∧k ≠ 3∧k ≠ 4)) with hk | hk | hk | hk | hk | ⟨h1,h5,h2,h3,h4⟩
 ·subst hk
  refine dc_of_go Try.func56 rfl (by simp) ?_
  refine drv_sound (n:=100) (rs:=_) Try.func56 mo rfl none _ _ ?_
  simp only [go_sem,h61,hd5,Int.reduceSub,Bool.and_false,Bool.false_and,Bool.or_false]
  (with_reducible and_intros)<;>try exact sd
  refine XK.plain (within t 0 _) ok54 ?_ (hbT ())
  refine drv_sound (n:=100) (rs:=_) Try.func56 mo rfl (some _) _ _ ?_
  simp only [go_sem,h61,hd5,Int.reduceSub,Bool.and_false,Bool.false_and,Bool.or_false]
  refine XK.gskip 8 true (DB false) ?_ (hbT ())
  refine drv_sound (n:=100) (rs:=_) Try.func56 mo rfl (some _) _ _ ?_
  simp only [go_sem,h61,hd5,Int.reduceSub,Bool.and_false,Bool.false_and,Bool.or_false]
  refine ⟨fun hno=>ret _ (n+1) _ (okS_false ?_) (by simp [I64,upd_same]) (by omega) (by simp),fun hyes=>?_⟩
  ·unfold headOK parts blk;grind
  refine XK.gskip 1 true (DB false) ?_ (hbT ())
  refine drv_sound (n:=100) (rs:=_) Try.func56 mo rfl (some _) _ _ ?_
  simp only [go_sem,h61,hd5,Int.reduceSub,Bool.and_false,Bool.false_and,Bool.or_false]
  refine XK.gskip 7 false (DB false) ?_ (hbT ())
  refine drv_sound (n:=100) (rs:=_) Try.func56 mo rfl (some _) _ _ ?_
  simp only [go_sem,h61,hd5,Int.reduceSub,Bool.and_false,Bool.false_and,Bool.or_false]
  refine XK.gplain 17 true true (fun _=>isNone (.mk ik iv iks)) ok68 ?_ (hbT ()) (hok:=by intro hx;simp [okP,getCall,Call.operands,evT,upd,peelB,DB,DI,cst,one] at hx ⊢;first | done | exact hx | (simp_all;done) | omega)
  refine drv_sound (n:=100) (rs:=_) Try.func56 mo rfl (some _) _ _ ?_
  simp only [go_sem,h61,hd5,Int.reduceSub,Bool.and_false,Bool.false_and,Bool.or_false]
  refine XK.gplain 26 true (none0 (.mk ik iv iks)) (fun _=>hx (.mk vk vv vks)) ok66 ?_ (hbT ()) (hok:=by intro hx;simp [okP,getCall,Call.operands,evT,upd,peelB,DB,DI,cst,one] at hx ⊢;first | done | exact hx | (simp_all;done) | omega)
  refine drv_sound (n:=100) (rs:=_) Try.func56 mo rfl (some _) _ _ ?_
  simp only [go_sem,h61,hd5,Int.reduceSub,Bool.and_false,Bool.false_and,Bool.or_false]
  refine XK.gskip 37 true (DB false) ?_ (hbT ())
  refine drv_sound (n:=100) (rs:=_) Try.func56 mo rfl (some _) _ _ ?_
  simp only [go_sem,h61,hd5,Int.reduceSub,Bool.and_false,Bool.false_and,Bool.or_false]
  refine ⟨fun hno=>ret _ (n+1) _ (okS_false ?_) (by simp [I64,upd_same]) (by omega) (by simp),fun hyes2=>?_⟩
  ·unfold headOK parts blk;grind
  have hhead:headOK ⟨vs,ar,bd⟩ 1 t (.mk ik iv iks) (.mk vk vv vks) c b.length e.length=true:=by unfold headOK parts blk;grind
  have heq:=okS_true (d:=d) (n:=n) (b:=b) (e:=e) hhead
  have hts:tsize (d+1) (.mk 1 t (.mk ik iv iks) (.mk vk vv vks) c b e)=1+lsize d b+lsize d e:=by simp [tsize,lsize]
  (with_reducible and_intros)<;>try exact sd
  refine XK.callG [0] (ih b (n+1) (by omega)) ok43 (hhp_one rfl) (hbT ()) (fun d h' ⟨c',_,e,_⟩=>by subst e;simp) ?_
  rintro _ h' ⟨c1,rfl,rfl,hc61,htr⟩ _
  cases hb:okB ⟨vs,ar,bd⟩ d b (n+1) with
  | false =>
   rw [hb] at heq
   refine drv_sound (n:=100) (rs:=_) Try.func56 mo rfl (some _) _ _ ?_
   simp only [go_sem,hb,h61,hd5,Int.reduceSub,Bool.and_false,Bool.false_and,Bool.or_false]
   refine XK.gskip 7 true (DB false) ?_ (hbT ())
   refine drv_sound (n:=100) (rs:=_) Try.func56 mo rfl (some _) _ _ ?_
   simp only [go_sem,h61,hd5,Int.reduceSub,Bool.and_false,Bool.false_and,Bool.or_false]
   exact ret _ c1 _ (by rw [heq];rfl) (by simp [I64,upd_same]) hc61 (by simp)
  | true =>
   have hc1:=htr hb
   have hc160:c1≤60:=by simp only [okB,Bool.and_eq_true,decide_eq_true_eq] at hb;omega
   rw [hb,Bool.true_and,← hc1] at heq
   refine drv_sound (n:=100) (rs:=_) Try.func56 mo rfl (some _) _ _ ?_
   simp only [go_sem,hb,h61,hd5,Int.reduceSub,Bool.and_false,Bool.false_and,Bool.or_false]
   (with_reducible and_intros)<;>try exact sd
   refine XK.callT 7 true [0] (ih e c1 hc160) ok43 (hhp_one rfl) (hbT ()) (fun d h' ⟨c',_,e,_⟩=>by subst e;simp) ?_
   rintro _ h' ⟨c2,rfl,rfl,hc62,htr2⟩ _
   refine drv_sound (n:=100) (rs:=_) Try.func56 mo rfl (some _) _ _ ?_
   simp only [go_sem,h61,hd5,Int.reduceSub,Bool.and_false,Bool.false_and,Bool.or_false]
   exact ret _ c2 _ heq.symm (by simp [I64,upd_same]) hc62 (fun h=>by rw [hts,htr2 h];omega)
 ·subst hk
  refine dc_of_go Try.func56 rfl (by simp) ?_
  refine drv_sound (n:=100) (rs:=_) Try.func56 mo rfl none _ _ ?_
  simp only [go_sem,h61,hd5,Int.reduceSub,Bool.and_false,Bool.false_and,Bool.or_false]
  (with_reducible and_intros)<;>try exact sd
  refine XK.plain (within t 0 _) ok54 ?_ (hbT ())
  refine drv_sound (n:=100) (rs:=_) Try.func56 mo rfl (some _) _ _ ?_
  simp only [go_sem,h61,hd5,Int.reduceSub,Bool.and_false,Bool.false_and,Bool.or_false]
  refine XK.gskip 8 true (DB false) ?_ (hbT ())
  refine drv_sound (n:=100) (rs:=_) Try.func56 mo rfl (some _) _ _ ?_
  simp only [go_sem,h61,hd5,Int.reduceSub,Bool.and_false,Bool.false_and,Bool.or_false]
  refine ⟨fun hno=>ret _ (n+1) _ (okS_false ?_) (by simp [I64,upd_same]) (by omega) (by simp),fun hyes=>?_⟩
  ·unfold headOK parts blk;grind
  refine XK.gskip 1 true (DB false) ?_ (hbT ())
  refine drv_sound (n:=100) (rs:=_) Try.func56 mo rfl (some _) _ _ ?_
  simp only [go_sem,h61,hd5,Int.reduceSub,Bool.and_false,Bool.false_and,Bool.or_false]
  refine XK.gskip 7 false (DB false) ?_ (hbT ())
  refine drv_sound (n:=100) (rs:=_) Try.func56 mo rfl (some _) _ _ ?_
  simp only [go_sem,h61,hd5,Int.reduceSub,Bool.and_false,Bool.false_and,Bool.or_false]
  refine XK.gplain 17 true true (fun _=>isNone (.mk ik iv iks)) ok68 ?_ (hbT ()) (hok:=by intro hx;simp [okP,getCall,Call.operands,evT,upd,peelB,DB,DI,cst,one] at hx ⊢;first | done | exact hx | (simp_all;done) | omega)
  refine drv_sound (n:=100) (rs:=_) Try.func56 mo rfl (some _) _ _ ?_
  simp only [go_sem,h61,hd5,Int.reduceSub,Bool.and_false,Bool.false_and,Bool.or_false]
  refine XK.gplain 26 true (none0 (.mk ik iv iks)) (fun _=>hx (.mk vk vv vks)) ok66 ?_ (hbT ()) (hok:=by intro hx;simp [okP,getCall,Call.operands,evT,upd,peelB,DB,DI,cst,one] at hx ⊢;first | done | exact hx | (simp_all;done) | omega)
  refine drv_sound (n:=100) (rs:=_) Try.func56 mo rfl (some _) _ _ ?_
  simp only [go_sem,h61,hd5,Int.reduceSub,Bool.and_false,Bool.false_and,Bool.or_false]
  refine XK.gskip 37 true (DB false) ?_ (hbT ())
  refine drv_sound (n:=100) (rs:=_) Try.func56 mo rfl (some _) _ _ ?_
  simp only [go_sem,h61,hd5,Int.reduceSub,Bool.and_false,Bool.false_and,Bool.or_false]
  refine ⟨fun hno=>ret _ (n+1) _ (okS_false ?_) (by simp [I64,upd_same]) (by omega) (by simp),fun hyes2=>?_⟩
  ·unfold headOK parts blk;grind
  have hhead:headOK ⟨vs,ar,bd⟩ 5 t (.mk ik iv iks) (.mk vk vv vks) c b.length e.length=true:=by unfold headOK parts blk;grind
  have heq:=okS_true (d:=d) (n:=n) (b:=b) (e:=e) hhead
  have hts:tsize (d+1) (.mk 5 t (.mk ik iv iks) (.mk vk vv vks) c b e)=1+lsize d b+lsize d e:=by simp [tsize,lsize]
  (with_reducible and_intros)<;>try exact sd
  refine XK.callG [0] (ih b (n+1) (by omega)) ok43 (hhp_one rfl) (hbT ()) (fun d h' ⟨c',_,e,_⟩=>by subst e;simp) ?_
  rintro _ h' ⟨c1,rfl,rfl,hc61,htr⟩ _
  cases hb:okB ⟨vs,ar,bd⟩ d b (n+1) with
  | false =>
   rw [hb] at heq
   refine drv_sound (n:=100) (rs:=_) Try.func56 mo rfl (some _) _ _ ?_
   simp only [go_sem,hb,h61,hd5,Int.reduceSub,Bool.and_false,Bool.false_and,Bool.or_false]
   refine XK.gskip 7 true (DB false) ?_ (hbT ())
   refine drv_sound (n:=100) (rs:=_) Try.func56 mo rfl (some _) _ _ ?_
   simp only [go_sem,h61,hd5,Int.reduceSub,Bool.and_false,Bool.false_and,Bool.or_false]
   exact ret _ c1 _ (by rw [heq];rfl) (by simp [I64,upd_same]) hc61 (by simp)
  | true =>
   have hc1:=htr hb
   have hc160:c1≤60:=by simp only [okB,Bool.and_eq_true,decide_eq_true_eq] at hb;omega
   rw [hb,Bool.true_and,← hc1] at heq
   refine drv_sound (n:=100) (rs:=_) Try.func56 mo rfl (some _) _ _ ?_
   simp only [go_sem,hb,h61,hd5,Int.reduceSub,Bool.and_false,Bool.false_and,Bool.or_false]
   (with_reducible and_intros)<;>try exact sd
   refine XK.callT 7 true [0] (ih e c1 hc160) ok43 (hhp_one rfl) (hbT ()) (fun d h' ⟨c',_,e,_⟩=>by subst e;simp) ?_
   rintro _ h' ⟨c2,rfl,rfl,hc62,htr2⟩ _
   refine drv_sound (n:=100) (rs:=_) Try.func56 mo rfl (some _) _ _ ?_
   simp only [go_sem,h61,hd5,Int.reduceSub,Bool.and_false,Bool.false_and,Bool.or_false]
   exact ret _ c2 _ heq.symm (by simp [I64,upd_same]) hc62 (fun h=>by rw [hts,htr2 h];omega)
 ·subst hk
  refine dc_of_go Try.func56 rfl (by simp) ?_
  refine drv_sound (n:=100) (rs:=_) Try.func56 mo rfl none _ _ ?_
  simp only [go_sem,h61,hd5,Int.reduceSub,Bool.and_false,Bool.false_and,Bool.or_false]
  (with_reducible and_intros)<;>try exact sd
  refine XK.plain (within t 0 _) ok54 ?_ (hbT ())
  refine drv_sound (n:=100) (rs:=_) Try.func56 mo rfl (some _) _ _ ?_
  simp only [go_sem,h61,hd5,Int.reduceSub,Bool.and_false,Bool.false_and,Bool.or_false]
  refine XK.gskip 8 true (DB false) ?_ (hbT ())
  refine drv_sound (n:=100) (rs:=_) Try.func56 mo rfl (some _) _ _ ?_
  simp only [go_sem,h61,hd5,Int.reduceSub,Bool.and_false,Bool.false_and,Bool.or_false]
  refine ⟨fun hno=>ret _ (n+1) _ (okS_false ?_) (by simp [I64,upd_same]) (by omega) (by simp),fun hyes=>?_⟩
  ·unfold headOK parts blk;grind
  refine XK.gplain 1 true true (fun _=>hx (.mk ik iv iks)) ok66 ?_ (hbT ()) (hok:=by intro hx;simp [okP,getCall,Call.operands,evT,upd,peelB,DB,DI,cst,one] at hx ⊢;first | done | exact hx | (simp_all;done) | omega)
  refine drv_sound (n:=100) (rs:=_) Try.func56 mo rfl (some _) _ _ ?_
  simp only [go_sem,h61,hd5,Int.reduceSub,Bool.and_false,Bool.false_and,Bool.or_false]
  refine XK.gplain 7 false (right ⟨vs,ar,bd⟩ (.mk ik iv iks)) (fun _=>isPlain (.mk ik iv iks)) ok67 ?_ (hbT ()) (hok:=by intro hx;simp [okP,getCall,Call.operands,evT,upd,peelB,DB,DI,cst,one] at hx ⊢;first | done | exact hx | (simp_all;done) | omega)
  refine drv_sound (n:=100) (rs:=_) Try.func56 mo rfl (some _) _ _ ?_
  simp only [go_sem,h61,hd5,Int.reduceSub,Bool.and_false,Bool.false_and,Bool.or_false]
  refine XK.gskip 17 true (DB false) ?_ (hbT ())
  refine drv_sound (n:=100) (rs:=_) Try.func56 mo rfl (some _) _ _ ?_
  simp only [go_sem,h61,hd5,Int.reduceSub,Bool.and_false,Bool.false_and,Bool.or_false]
  refine XK.gplain 26 true (right ⟨vs,ar,bd⟩ (.mk ik iv iks) && atom (.mk ik iv iks)) (fun _=>hx (.mk vk vv vks)) ok66 ?_ (hbT ()) (hok:=by intro hx;simp [okP,getCall,Call.operands,evT,upd,peelB,DB,DI,cst,one] at hx ⊢;first | done | exact hx | (simp_all;done) | omega)
  refine drv_sound (n:=100) (rs:=_) Try.func56 mo rfl (some _) _ _ ?_
  simp only [go_sem,h61,hd5,Int.reduceSub,Bool.and_false,Bool.false_and,Bool.or_false]
  refine XK.gskip 37 true (DB false) ?_ (hbT ())
  refine drv_sound (n:=100) (rs:=_) Try.func56 mo rfl (some _) _ _ ?_
  simp only [go_sem,h61,hd5,Int.reduceSub,Bool.and_false,Bool.false_and,Bool.or_false]
  refine ⟨fun hno=>ret _ (n+1) _ (okS_false ?_) (by simp [I64,upd_same]) (by omega) (by simp),fun hyes2=>?_⟩
  ·unfold headOK parts blk;grind
  have hhead:headOK ⟨vs,ar,bd⟩ 2 t (.mk ik iv iks) (.mk vk vv vks) c b.length e.length=true:=by unfold headOK parts blk;grind
  have heq:=okS_true (d:=d) (n:=n) (b:=b) (e:=e) hhead
  have hts:tsize (d+1) (.mk 2 t (.mk ik iv iks) (.mk vk vv vks) c b e)=1+lsize d b+lsize d e:=by simp [tsize,lsize]
  (with_reducible and_intros)<;>try exact sd
  refine XK.callG [0] (ih b (n+1) (by omega)) ok43 (hhp_one rfl) (hbT ()) (fun d h' ⟨c',_,e,_⟩=>by subst e;simp) ?_
  rintro _ h' ⟨c1,rfl,rfl,hc61,htr⟩ _
  cases hb:okB ⟨vs,ar,bd⟩ d b (n+1) with
  | false =>
   rw [hb] at heq
   refine drv_sound (n:=100) (rs:=_) Try.func56 mo rfl (some _) _ _ ?_
   simp only [go_sem,hb,h61,hd5,Int.reduceSub,Bool.and_false,Bool.false_and,Bool.or_false]
   refine XK.gskip 7 true (DB false) ?_ (hbT ())
   refine drv_sound (n:=100) (rs:=_) Try.func56 mo rfl (some _) _ _ ?_
   simp only [go_sem,h61,hd5,Int.reduceSub,Bool.and_false,Bool.false_and,Bool.or_false]
   exact ret _ c1 _ (by rw [heq];rfl) (by simp [I64,upd_same]) hc61 (by simp)
  | true =>
   have hc1:=htr hb
   have hc160:c1≤60:=by simp only [okB,Bool.and_eq_true,decide_eq_true_eq] at hb;omega
   rw [hb,Bool.true_and,← hc1] at heq
   refine drv_sound (n:=100) (rs:=_) Try.func56 mo rfl (some _) _ _ ?_
   simp only [go_sem,hb,h61,hd5,Int.reduceSub,Bool.and_false,Bool.false_and,Bool.or_false]
   (with_reducible and_intros)<;>try exact sd
   refine XK.callT 7 true [0] (ih e c1 hc160) ok43 (hhp_one rfl) (hbT ()) (fun d h' ⟨c',_,e,_⟩=>by subst e;simp) ?_
   rintro _ h' ⟨c2,rfl,rfl,hc62,htr2⟩ _
   refine drv_sound (n:=100) (rs:=_) Try.func56 mo rfl (some _) _ _ ?_
   simp only [go_sem,h61,hd5,Int.reduceSub,Bool.and_false,Bool.false_and,Bool.or_false]
   exact ret _ c2 _ heq.symm (by simp [I64,upd_same]) hc62 (fun h=>by rw [hts,htr2 h];omega)
 ·subst hk
  refine dc_of_go Try.func56 rfl (by simp) ?_
  refine drv_sound (n:=100) (rs:=_) Try.func56 mo rfl none _ _ ?_
  simp only [go_sem,h61,hd5,Int.reduceSub,Bool.and_false,Bool.false_and,Bool.or_false]
  (with_reducible and_intros)<;>try exact sd
  refine XK.plain (within t 0 _) ok54 ?_ (hbT ())
  refine drv_sound (n:=100) (rs:=_) Try.func56 mo rfl (some _) _ _ ?_
  simp only [go_sem,h61,hd5,Int.reduceSub,Bool.and_false,Bool.false_and,Bool.or_false]
  refine XK.gskip 8 true (DB false) ?_ (hbT ())
  refine drv_sound (n:=100) (rs:=_) Try.func56 mo rfl (some _) _ _ ?_
  simp only [go_sem,h61,hd5,Int.reduceSub,Bool.and_false,Bool.false_and,Bool.or_false]
  refine ⟨fun hno=>ret _ (n+1) _ (okS_false ?_) (by simp [I64,upd_same]) (by omega) (by simp),fun hyes=>?_⟩
  ·unfold headOK parts blk;grind
  refine XK.gskip 1 true (DB false) ?_ (hbT ())
  refine drv_sound (n:=100) (rs:=_) Try.func56 mo rfl (some _) _ _ ?_
  simp only [go_sem,h61,hd5,Int.reduceSub,Bool.and_false,Bool.false_and,Bool.or_false]
  refine XK.gskip 7 false (DB false) ?_ (hbT ())
  refine drv_sound (n:=100) (rs:=_) Try.func56 mo rfl (some _) _ _ ?_
  simp only [go_sem,h61,hd5,Int.reduceSub,Bool.and_false,Bool.false_and,Bool.or_false]
  refine XK.gplain 17 true true (fun _=>isNone (.mk ik iv iks)) ok68 ?_ (hbT ()) (hok:=by intro hx;simp [okP,getCall,Call.operands,evT,upd,peelB,DB,DI,cst,one] at hx ⊢;first | done | exact hx | (simp_all;done) | omega)
  refine drv_sound (n:=100) (rs:=_) Try.func56 mo rfl (some _) _ _ ?_
  simp only [go_sem,h61,hd5,Int.reduceSub,Bool.and_false,Bool.false_and,Bool.or_false]
  refine XK.gplain 26 true (none0 (.mk ik iv iks)) (fun _=>hx (.mk vk vv vks)) ok66 ?_ (hbT ()) (hok:=by intro hx;simp [okP,getCall,Call.operands,evT,upd,peelB,DB,DI,cst,one] at hx ⊢;first | done | exact hx | (simp_all;done) | omega)
  refine drv_sound (n:=100) (rs:=_) Try.func56 mo rfl (some _) _ _ ?_
  simp only [go_sem,h61,hd5,Int.reduceSub,Bool.and_false,Bool.false_and,Bool.or_false]
  refine XK.gskip 37 true (DB false) ?_ (hbT ())
  refine drv_sound (n:=100) (rs:=_) Try.func56 mo rfl (some _) _ _ ?_
  simp only [go_sem,h61,hd5,Int.reduceSub,Bool.and_false,Bool.false_and,Bool.or_false]
  refine ⟨fun hno=>ret _ (n+1) _ (okS_false ?_) (by simp [I64,upd_same]) (by omega) (by simp),fun hyes2=>?_⟩
  ·unfold headOK parts blk;grind
  have hhead:headOK ⟨vs,ar,bd⟩ 3 t (.mk ik iv iks) (.mk vk vv vks) c b.length e.length=true:=by unfold headOK parts blk;grind
  have heq:=okS_true (d:=d) (n:=n) (b:=b) (e:=e) hhead
  have hts:tsize (d+1) (.mk 3 t (.mk ik iv iks) (.mk vk vv vks) c b e)=1+lsize d b+lsize d e:=by simp [tsize,lsize]
  (with_reducible and_intros)<;>try exact sd
  refine XK.callG [0] (ih b (n+1) (by omega)) ok43 (hhp_one rfl) (hbT ()) (fun d h' ⟨c',_,e,_⟩=>by subst e;simp) ?_
  rintro _ h' ⟨c1,rfl,rfl,hc61,htr⟩ _
  cases hb:okB ⟨vs,ar,bd⟩ d b (n+1) with
  | false =>
   rw [hb] at heq
   refine drv_sound (n:=100) (rs:=_) Try.func56 mo rfl (some _) _ _ ?_
   simp only [go_sem,hb,h61,hd5,Int.reduceSub,Bool.and_false,Bool.false_and,Bool.or_false]
   refine XK.gskip 7 true (DB false) ?_ (hbT ())
   refine drv_sound (n:=100) (rs:=_) Try.func56 mo rfl (some _) _ _ ?_
   simp only [go_sem,h61,hd5,Int.reduceSub,Bool.and_false,Bool.false_and,Bool.or_false]
   exact ret _ c1 _ (by rw [heq];rfl) (by simp [I64,upd_same]) hc61 (by simp)
  | true =>
   have hc1:=htr hb
   have hc160:c1≤60:=by simp only [okB,Bool.and_eq_true,decide_eq_true_eq] at hb;omega
   rw [hb,Bool.true_and,← hc1] at heq
   refine drv_sound (n:=100) (rs:=_) Try.func56 mo rfl (some _) _ _ ?_
   simp only [go_sem,hb,h61,hd5,Int.reduceSub,Bool.and_false,Bool.false_and,Bool.or_false]
   (with_reducible and_intros)<;>try exact sd
   refine XK.callT 7 true [0] (ih e c1 hc160) ok43 (hhp_one rfl) (hbT ()) (fun d h' ⟨c',_,e,_⟩=>by subst e;simp) ?_
   rintro _ h' ⟨c2,rfl,rfl,hc62,htr2⟩ _
   refine drv_sound (n:=100) (rs:=_) Try.func56 mo rfl (some _) _ _ ?_
   simp only [go_sem,h61,hd5,Int.reduceSub,Bool.and_false,Bool.false_and,Bool.or_false]
   exact ret _ c2 _ heq.symm (by simp [I64,upd_same]) hc62 (fun h=>by rw [hts,htr2 h];omega)
 ·subst hk
  refine dc_of_go Try.func56 rfl (by simp) ?_
  refine drv_sound (n:=100) (rs:=_) Try.func56 mo rfl none _ _ ?_
  simp only [go_sem,h61,hd5,Int.reduceSub,Bool.and_false,Bool.false_and,Bool.or_false]
  (with_reducible and_intros)<;>try exact sd
  refine XK.plain (within t 0 _) ok54 ?_ (hbT ())
  refine drv_sound (n:=100) (rs:=_) Try.func56 mo rfl (some _) _ _ ?_
  simp only [go_sem,h61,hd5,Int.reduceSub,Bool.and_false,Bool.false_and,Bool.or_false]
  refine XK.gplain 8 true (decide (0≤t) && decide (t≤0)) (fun _=>within c 1 3) ok54 ?_ (hbT ()) (hok:=by intro hx;simp [okP,getCall,Call.operands,evT,upd,peelB,DB,DI,cst,one] at hx ⊢;first | done | exact hx | (simp_all;done) | omega)
  refine drv_sound (n:=100) (rs:=_) Try.func56 mo rfl (some _) _ _ ?_
  simp only [go_sem,h61,hd5,Int.reduceSub,Bool.and_false,Bool.false_and,Bool.or_false]
  refine ⟨fun hno=>ret _ (n+1) _ (okS_false ?_) (by simp [I64,upd_same]) (by omega) (by simp),fun hyes=>?_⟩
  ·unfold headOK parts blk;grind
  refine XK.gskip 1 true (DB false) ?_ (hbT ())
  refine drv_sound (n:=100) (rs:=_) Try.func56 mo rfl (some _) _ _ ?_
  simp only [go_sem,h61,hd5,Int.reduceSub,Bool.and_false,Bool.false_and,Bool.or_false]
  refine XK.gskip 7 false (DB false) ?_ (hbT ())
  refine drv_sound (n:=100) (rs:=_) Try.func56 mo rfl (some _) _ _ ?_
  simp only [go_sem,h61,hd5,Int.reduceSub,Bool.and_false,Bool.false_and,Bool.or_false]
  refine XK.gplain 17 true true (fun _=>isNone (.mk ik iv iks)) ok68 ?_ (hbT ()) (hok:=by intro hx;simp [okP,getCall,Call.operands,evT,upd,peelB,DB,DI,cst,one] at hx ⊢;first | done | exact hx | (simp_all;done) | omega)
  refine drv_sound (n:=100) (rs:=_) Try.func56 mo rfl (some _) _ _ ?_
  simp only [go_sem,h61,hd5,Int.reduceSub,Bool.and_false,Bool.false_and,Bool.or_false]
  refine XK.gskip 26 true (DB false) ?_ (hbT ())
  refine drv_sound (n:=100) (rs:=_) Try.func56 mo rfl (some _) _ _ ?_
  simp only [go_sem,h61,hd5,Int.reduceSub,Bool.and_false,Bool.false_and,Bool.or_false]
  refine XK.gplain 37 true (none0 (.mk ik iv iks)) (fun _=>isNone (.mk vk vv vks)) ok68 ?_ (hbT ()) (hok:=by intro hx;simp [okP,getCall,Call.operands,evT,upd,peelB,DB,DI,cst,one] at hx ⊢;first | done | exact hx | (simp_all;done) | omega)
  refine drv_sound (n:=100) (rs:=_) Try.func56 mo rfl (some _) _ _ ?_
  simp only [go_sem,h61,hd5,Int.reduceSub,Bool.and_false,Bool.false_and,Bool.or_false]
  refine ⟨fun hno=>ret _ (n+1) _ (okS_false ?_) (by simp [I64,upd_same]) (by omega) (by simp),fun hyes2=>?_⟩
  ·unfold headOK parts blk;grind
  have hhead:headOK ⟨vs,ar,bd⟩ 4 t (.mk ik iv iks) (.mk vk vv vks) c b.length e.length=true:=by unfold headOK parts blk;grind
  have heq:=okS_true (d:=d) (n:=n) (b:=b) (e:=e) hhead
  have hts:tsize (d+1) (.mk 4 t (.mk ik iv iks) (.mk vk vv vks) c b e)=1+lsize d b+lsize d e:=by simp [tsize,lsize]
  (with_reducible and_intros)<;>try exact sd
  refine XK.callG [0] (ih b (n+1) (by omega)) ok43 (hhp_one rfl) (hbT ()) (fun d h' ⟨c',_,e,_⟩=>by subst e;simp) ?_
  rintro _ h' ⟨c1,rfl,rfl,hc61,htr⟩ _
  cases hb:okB ⟨vs,ar,bd⟩ d b (n+1) with
  | false =>
   rw [hb] at heq
   refine drv_sound (n:=100) (rs:=_) Try.func56 mo rfl (some _) _ _ ?_
   simp only [go_sem,hb,h61,hd5,Int.reduceSub,Bool.and_false,Bool.false_and,Bool.or_false]
   refine XK.gskip 7 true (DB false) ?_ (hbT ())
   refine drv_sound (n:=100) (rs:=_) Try.func56 mo rfl (some _) _ _ ?_
   simp only [go_sem,h61,hd5,Int.reduceSub,Bool.and_false,Bool.false_and,Bool.or_false]
   exact ret _ c1 _ (by rw [heq];rfl) (by simp [I64,upd_same]) hc61 (by simp)
  | true =>
   have hc1:=htr hb
   have hc160:c1≤60:=by simp only [okB,Bool.and_eq_true,decide_eq_true_eq] at hb;omega
   rw [hb,Bool.true_and,← hc1] at heq
   refine drv_sound (n:=100) (rs:=_) Try.func56 mo rfl (some _) _ _ ?_
   simp only [go_sem,hb,h61,hd5,Int.reduceSub,Bool.and_false,Bool.false_and,Bool.or_false]
   (with_reducible and_intros)<;>try exact sd
   refine XK.callT 7 true [0] (ih e c1 hc160) ok43 (hhp_one rfl) (hbT ()) (fun d h' ⟨c',_,e,_⟩=>by subst e;simp) ?_
   rintro _ h' ⟨c2,rfl,rfl,hc62,htr2⟩ _
   refine drv_sound (n:=100) (rs:=_) Try.func56 mo rfl (some _) _ _ ?_
   simp only [go_sem,h61,hd5,Int.reduceSub,Bool.and_false,Bool.false_and,Bool.or_false]
   exact ret _ c2 _ heq.symm (by simp [I64,upd_same]) hc62 (fun h=>by rw [hts,htr2 h];omega)
 ·have e1:(k == 1)=false:=by simp [h1]
  have e2:(k == 2)=false:=by simp [h2]
  have e3:(k == 3)=false:=by simp [h3]
  have e4:(k == 4)=false:=by simp [h4]
  have e5:(k == 5)=false:=by simp [h5]
  refine dc_of_go Try.func56 rfl (by simp) ?_
  refine drv_sound (n:=100) (rs:=_) Try.func56 mo rfl none _ _ ?_
  simp only [go_sem,h61,hd5,e1,e2,e3,e4,e5,h1,h2,h3,h4,h5]
  (with_reducible and_intros)<;>try exact sd
  refine ret _ (n+1) _ (okS_false ?_) (by simp [I64,upd_same]) (by omega) (by simp)
  unfold headOK;grind
theorem stmt0 (p:Pg) (s:St1) (n:Nat) (hn:n≤60):DC Try.prog 56 [.agg p.cells,.agg s.cells,DI .i64 6,.c (.ptr 0 0)] [some [I64 n]] (stmtR p 0 s n):=by
 obtain ⟨vs,ar,bd⟩:=p
 obtain ⟨k,t,⟨ik,iv,iks⟩,⟨vk,vv,vks⟩,c,b,e⟩:=s
 refine dc_of_go Try.func56 rfl (by simp) ?_
 refine drv_sound (n:=100) (rs:=_) Try.func56 mo rfl none _ _ ?_
 simp only [go_sem,Bool.or_true]
 refine ⟨by simp only [InK];omega,?_⟩
 exact RetOb.keep1 (d:=DB false) (cs:=[I64 (n+1:Nat)]) ⟨n+1,by simp [okS,stmtOK],rfl,by omega,by simp [okS,stmtOK]⟩ (by simp [I64,upd_same]) (by simp [kf]) rfl
theorem stmts (p:Pg) (hl:p.vars.length≤mx) (hl2:p.arrays.length≤mx):∀ (d:Nat) (deep:Int),1≤deep→deep+d=6→∀ (l:List St1) (c:Nat),c≤60 →
 DC Try.prog 43 [.agg p.cells,.c (.isl 11 (St1.cellsL l)),DI .i64 deep,.c (.ptr 0 0)] [some [I64 c]] (stmtsR p d l c)
 | 0,deep,h1,h,l,c,hc=>stmtsOf p 0 deep h (fun s c hc=>by
  obtain rfl:deep=6:=by omega
  exact stmt0 p s c hc) l c hc
 | d+1,deep,h1,h,l,c,hc=>stmtsOf p (d+1) deep h (fun s c hc=>stmtOf p hl hl2 d deep h1 h (fun l c hc=>stmts p hl hl2 d (deep+1) (by omega) (by omega) l c hc) s c hc) l c hc
theorem programValidI (p:Pg) (hl:p.vars.length≤mx) (hl2:p.arrays.length≤mx):DC Try.prog 23 [.agg p.cells] [] (fun r h=>r=DB (progOK p)∧h=[]):=by
 obtain ⟨vs,ar,bd⟩:=p
 have hcast:decide ((lsize 5 bd:Int)≤60)=decide (0+lsize 5 bd≤60):=decide_eq_decide.2 (by omega)
 refine dc_of_go Try.func23 rfl (by simp) ?_
 refine drv_sound (n:=100) (rs:=_) Try.func23 mo rfl none _ _ ?_
 simp only [go_sem]
 refine XK.plain (declared vs ar hl hl2) ok42 ?_ (hbT ())
 cases hh:headsOK vs ar with
 | false =>
  refine drv_sound (n:=100) (rs:=_) Try.func23 mo rfl (some _) _ _ ?_
  simp only [go_sem,hh]
  refine XK.gskip 5 true (DB false) ?_ (hbT ())
  refine drv_sound (n:=100) (rs:=_) Try.func23 mo rfl (some _) _ _ ?_
  simp only [go_sem]
  refine RetOb.plain (d:=DB false) ⟨?_,rfl⟩ rfl
  simp [progOK,hh]
 | true =>
  refine drv_sound (n:=100) (rs:=_) Try.func23 mo rfl (some _) _ _ ?_
  simp only [go_sem,hh]
  refine XK.callT 5 true [128] (stmts ⟨vs,ar,bd⟩ hl hl2 5 1 (by omega) (by omega) bd 0 (by omega)) ok43 (hhp_one rfl) (hbT ()) (fun d h' ⟨c',_,e,_⟩=>by subst e;simp) ?_
  rintro _ h' ⟨c1,rfl,rfl,hc61,htr⟩ _
  refine drv_sound (n:=100) (rs:=_) Try.func23 mo rfl (some _) _ _ ?_
  simp only [go_sem]
  refine RetOb.plain (d:=DB _) ⟨?_,rfl⟩ rfl
  simp only [progOK,hh,hcast,okB,Bool.true_and]
theorem kf_I (xs:List Int):∀ c ∈ xs.map I64,kf c=true:=by
 intro c hc;obtain ⟨x,_,rfl⟩:=List.mem_map.1 hc;rfl
theorem flat_I (xs:List Int):(xs.map fun n=>[I64 n]).flatten=xs.map I64:=flat1 _ _
def hdr (b b' na:Nat):List C:=[C.msl b 1 0 4,.msl b' 1 0 4].take na
def blk0 (arr:List (List Int)):List C:=((arr[0]?).getD []).map I64
def blk1 (arr:List (List Int)):List C:=((arr[1]?).getD []).map I64
theorem CMs_I {hT hS:Hp} {r:Nat→Option Nat} {fz:List Nat} (xs:List Int):CMs hT r hS fz (xs.map I64) (xs.map I64)=True:=eq_true (CMs.kf (kf_I xs))
theorem flat_I' (xs:List Int):(xs.map fun n=>[C.v (.int .i64 n)]).flatten=xs.map I64:=flat1 _ _
def trC (tr:List Ev):List C:=(tr.map Ev.cells).flatten
theorem trC_kf (tr:List Ev):∀ c ∈ trC tr,kf c=true:=by
 unfold trC
 induction tr with
 | nil=>simp
 | cons a t ih =>
  intro c hc
  rw [List.map_cons,List.flatten_cons,List.mem_append] at hc
  rcases hc with hc | hc
  ·simp only [Ev.cells,List.mem_cons,List.not_mem_nil,or_false] at hc
   rcases hc with rfl | rfl<;>rfl
  ·exact ih c hc
theorem CMs_tr {hT hS:Hp} {r:Nat→Option Nat} {fz:List Nat} (tr:List Ev):CMs hT r hS fz (trC tr) (trC tr)=True:=eq_true (CMs.kf (trC_kf tr))
structure MemFits (p : Pg) (m : Mm) : Prop where
 nv:m.vals.length=p.vars.length
 na:m.arrays.length=p.arrays.length
 nv12:1≤p.vars.length∧p.vars.length≤12
 na2:p.arrays.length≤2
 val:∀ x ∈ m.vals,0≤x∧x≤255
 arr:∀ a ∈ m.arrays,a.length=4∧∀ x ∈ a,0≤x∧x≤255
theorem kf_app {a b:List C} (h1:∀ c ∈ a,kf c=true) (h2:∀ c ∈ b,kf c=true):∀ c ∈ a++b,kf c=true:=fun c hc=>(List.mem_append.1 hc).elim (h1 c) (h2 c)
theorem stmtOK_succ {p : Pg} {d : Nat} {k t : Int} {ix v : Ex} {c : Int} {b e : List St1} (h : stmtOK p (d + 1) (.mk k t ix v c b e) = true) :
 headOK p k t ix v c b.length e.length=true∧(∀ x ∈ b,stmtOK p d x=true)∧(∀ x ∈ e,stmtOK p d x=true):=by
 simp only [stmtOK,Bool.and_eq_true,List.all_eq_true] at h
 exact ⟨h.1.1,h.1.2,h.2⟩
theorem right_shape {p:Pg} {e:Ex} (h:right p e=true):shape p 5 e=true∧cnt 5 e≤15:=by
 simp only [right,Bool.and_eq_true,decide_eq_true_eq] at h
 exact ⟨h.1,by omega⟩
theorem head_kind {p : Pg} {k t : Int} {ix v : Ex} {c : Int} {bn en : Nat} (h : headOK p k t ix v c bn en = true) :
 (k=1∨k=5)∧0≤t∧t<p.vars.length∧right p v=true∨k=2∧0≤t∧t<p.arrays.length∧right p ix=true∧atom ix=true∧right p v=true∨k=3∧right p v=true∨k=4∧1≤c∧c≤3:=by
 unfold headOK parts blk at h
 by_cases h1:k=1∨k=5
 ·left;simp only [if_pos h1] at h;grind
 ·right
  by_cases h2:k=2
  ·left;subst h2;simp at h;grind
  ·right
   by_cases h3:k=3
   ·left;subst h3;simp at h;grind
   ·right
    have h4:k=4:=by grind
    subst h4;simp at h;grind
end Go.Proofs.Ytlapccpnilomfaa.CtR
