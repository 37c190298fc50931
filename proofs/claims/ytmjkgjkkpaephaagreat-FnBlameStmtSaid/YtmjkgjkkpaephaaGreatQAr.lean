/- Contracts of functions of the program, one behind the other, as plain data: what each call returns and which blocks it leaves. -/
import Derived.Test.YtmjkgjkkpaephaaGreatQFacts
import Derived.Test.YtmjkgjkkpaephaaGreatQAi
import Derived.Test.YtmjkgjkkpaephaaGreatQAj
import Derived.Test.YtmjkgjkkpaephaaGreatQAk
import Derived.Test.YtmjkgjkkpaephaaGreatQAl
import Derived.Test.YtmjkgjkkpaephaaGreatQAo
import Derived.Test.YtmjkgjkkpaephaaGreatQAp
import Derived.Test.YtmjkgjkkpaephaaGreatQAq
import Derived.Test.YtmjkgjkkpaephaaGreatQAm
import Derived.Test.YtmjkgjkkpaephaaGreatQAn
set_option linter.unusedVariables false
set_option linter.unusedSimpArgs false
set_option maxHeartbeats 16000000
set_option maxRecDepth 100000
namespace Go.Proofs.YtmjkgjkkpaephaaGreat.CtR
open Go Go.CT CtF
theorem first1 (p : Pg) (G : FuncId) (hG : fnOK Tryz.prog G = true) (res : St1 → Nat → Int) (x : Fst) (hx : 0 ≤ x.n ∧ x.n < 1000) (s : St1) (c : Nat)
 (hres:DC Tryz.prog G [.agg p.cells,.agg s.cells,DI .i64 c] [] (fun r h=>r=DI .i64 (res s c)∧h=[])) :
 DC Tryz.prog 89 [.agg s.cells, DI .i64 c, .c (.ptr 0 0), .c (.ptr 1 0), .c (.ptr 2 0), .c (.ptr 3 0)] [some [I64 x.code], some [.met G p.cells], some [I64 x.n], some [I64 x.at_]]
  (fun r h=>r = .tup []∧h=[some [I64 (fstStep res x s c).code],some [.met G p.cells],some [I64 (fstStep res x s c).n],some [I64 (fstStep res x s c).at_]]):=by
 have h1:x.code=0→fstStep res x s c=⟨res s c,if res s c ≠ 0 then x.n else x.at_,x.n+1⟩:=fun h=>by unfold fstStep;rw [if_pos h]
 have h2:x.code ≠ 0→fstStep res x s c=⟨x.code,x.at_,x.n+1⟩:=fun h=>by unfold fstStep;rw [if_neg h]
 generalize fstStep res x s c=y at *
 generalize res s c=ro at *
 obtain ⟨code,at_,n⟩:=x
 simp only at h1 h2 hx
 obtain ⟨vs,ar,bd⟩:=p
 obtain ⟨k,t,⟨ik,iv,iks⟩,⟨vk,vv,vks⟩,cc,b,e⟩:=s
 have fin:∀ (a b c':Int) (hp:Hp),y=⟨a,b,c'⟩→hp 0=some (some [I64 a])→hp 1=some (some [.met G [isI vs,isI ar,.isl 11 (St1.cellsL bd)]])→hp 2=some (some [I64 c'])→hp 3=some (some [I64 b]) →
  RetOb 4 (fun r h=>r = .tup []∧h=[some [I64 y.code],some [.met G (Pg.cells ⟨vs,ar,bd⟩)],some [I64 y.n],some [I64 y.at_]]) (.tup []) hp:=fun a b c' hp hy g0 g1 g2 g3=>by
  subst hy
  refine RetOb.ofQ some [] (.tup []) _ ?_ ⟨rfl,rfl⟩ (by simp)
  simp [enumL,DMs,DM,HpOK,LowOK,hOf,upd,CM,CMs,g0,g1,g2,g3,Pg.cells]
 generalize hR:(fun (r:D) (h:List (Option (List C)))=>r = .tup []∧h=[some [I64 y.code],some [.met G (Pg.cells ⟨vs,ar,bd⟩)],some [I64 y.n],some [I64 y.at_]])=R at fin ⊢
 by_cases hc:code=0
 ·subst hc
  have h1:=h1 rfl
  by_cases hr:ro=0
  ·subst hr
   refine dcZ Tryz.func89 ?_
   simp only [go_sem]
   iterate 8 ((try (refine drvZ Tryz.func89 ?_;simp only [go_sem,bne_self_eq_false]));((with_reducible and_intros)<;>try exact sd);(try first | refine XK.p hres hG ?_ | refine XK.gp hres hG ?_))
   exact fin 0 at_ (n+1) _ (by rw [h1,if_neg (by simp)]) rfl rfl rfl rfl
  ·have g1:(ro=0)=False:=eq_false hr
   have g2:(ro != 0)=true:=by simp [hr]
   refine dcZ Tryz.func89 ?_
   simp only [go_sem]
   iterate 8 ((try (refine drvZ Tryz.func89 ?_;simp only [go_sem,g1,g2]));((with_reducible and_intros)<;>try exact sd);(try first | refine XK.p hres hG ?_ | refine XK.gp hres hG ?_))
   exact fin ro n (n+1) _ (by rw [h1,if_pos hr]) rfl rfl rfl rfl
 ·have g1:(code=0)=False:=eq_false hc
  have g2:(code == 0)=false:=by simp [hc]
  refine dcZ Tryz.func89 ?_
  simp only [go_sem,g1,g2]
  iterate 8 ((try (refine drvZ Tryz.func89 ?_;simp only [go_sem,g1,g2]));((with_reducible and_intros)<;>try exact sd);(try first | refine XK.p hres hG ?_ | refine XK.gp hres hG ?_))
  exact fin code at_ (n+1) _ (h2 hc) rfl rfl rfl rfl
def fB0 (x:Fst):List C:=[I64 x.code]
def fB2 (x:Fst):List C:=[I64 x.n]
def fB3 (x:Fst):List C:=[I64 x.at_]
def fB1 (G:FuncId) (p:Pg) (_:Fst):List C:=[.met G p.cells]
def firR (res:List Int→List Int→St1→Nat→Int) (p:Pg):Int × Int :=
 ((walkR (res p.vars p.arrays) p.vars p.arrays 5 0 p.body 0).1,if (walkR (res p.vars p.arrays) p.vars p.arrays 5 0 p.body 0).1=0 then -1 else (walkR (res p.vars p.arrays) p.vars p.arrays 5 0 p.body 0).2)
theorem chk_fir (res:List Int→List Int→St1→Nat→Int) {p:Pg} (h:progOK p=true):chkR res p=firR res p:=by unfold chkR;rw [if_pos h];rfl
theorem firstOf (p : Pg) (hok : progOK p = true) (G : FuncId) (hG : fnOK Tryz.prog G = true) (res : List Int → List Int → St1 → Nat → Int)
 (hres:∀ d s c,c≤3→stmtOK p (d+1) s=true→DC Tryz.prog G [.agg p.cells,.agg s.cells,DI .i64 (c:Nat)] [] (fun r h=>r=DI .i64 (res p.vars p.arrays s c)∧h=[])) :
 DC Tryz.prog 51 [.agg p.cells,.c (.met G p.cells)] [] (fun r h=>r = .tup [DI .i64 (firR res p).1,DI .i64 (firR res p).2]∧h=[]):=by
 have hmx:=mx_eq
 have hlen:=prog_len2 hok
 have hlab:=labs_of hok
 have hbo:=body_of hok
 have hea := (each44 p (by omega) (by omega) hlab.1 hlab.2 89 ok89 fB0 (fB1 G p) fB2 fB3
  (fun x r h=>by simp [fB0,renCs,renC]) (fun x r h=>by simp [fB1,renCs,renC]) (fun x r h=>by simp [fB2,renCs,renC]) (fun x r h=>by simp [fB3,renCs,renC])
  (fun x hT hS fz h=>by simp [fB0,CMs,CM]) (fun x hT hS fz h=>by simp [fB1,CMs,CM]) (fun x hT hS fz h=>by simp [fB2,CMs,CM]) (fun x hT hS fz h=>by simp [fB3,CMs,CM])
  (fstStep (res p.vars p.arrays)) (fun q x=>x.n=q) (fun d x s c q hq hx hc hs=>by
   refine ⟨?_,?_⟩
   ·have:(fstStep (res p.vars p.arrays) x s c).n=x.n+1:=by unfold fstStep;split<;>rfl
    rw [this,hx];push_cast;rfl
   ·cases d with
    | zero=>simp [stmtOK] at hs
    | succ d=>exact first1 p G hG (res p.vars p.arrays) x (by omega) s c (hres d s c hc hs)) 5 p.body ⟨0,-1,0⟩ 0 0 rfl (by decide) hbo.1 (by have:=hbo.2;omega)).2
 obtain ⟨w1,w2,w3⟩:=each_walk (res p.vars p.arrays) p.vars p.arrays 5 0 p.body ⟨0,-1,0⟩
 obtain ⟨w4,w5,w6⟩:=w3 rfl
 have hfi:firR res p=((eachF p.vars p.arrays (fstStep (res p.vars p.arrays)) 5 0 ⟨0,-1,0⟩ p.body).code,(eachF p.vars p.arrays (fstStep (res p.vars p.arrays)) 5 0 ⟨0,-1,0⟩ p.body).at_):=by
  rw [w4,w5];rfl
 rw [hfi]
 generalize eachF p.vars p.arrays (fstStep (res p.vars p.arrays)) 5 0 ⟨0,-1,0⟩ p.body=y at *
 obtain ⟨code,at_,n⟩:=y
 obtain ⟨vs,ar,bd⟩:=p
 simp only [fB0,fB1,fB2,fB3] at hea ⊢
 generalize hR:(fun (r:D) (h:List (Option (List C)))=>r = .tup [DI .i64 code,DI .i64 at_]∧h=[])=R
 refine dcZ Tryz.func51 ?_
 simp only [go_sem]
 iterate 3 ((try (refine drvZ Tryz.func51 ?_;simp only [go_sem]));((with_reducible and_intros)<;>try exact sd))
 refine XK.callG [256,64,384,320] hea ok54 (hhpG (by simp [HH,upd,renCs,renC,Pg.cells,isI])) (hbT ()) (fun d h' ⟨_,e⟩=>by subst e;simp) ?_
 rintro _ _ ⟨rfl,rfl⟩ _
 iterate 4 ((try (refine drvZ Tryz.func51 ?_;simp only [go_sem]));((with_reducible and_intros)<;>try exact sd))
 subst hR
 exact RetOb.two ⟨rfl,rfl⟩
theorem checkFlowI (p:Pg) (hl:p.vars.length≤mx) (hl2:p.arrays.length≤mx):DC Tryz.prog 50 [.agg p.cells] [] (fun r h=>r = .tup [DI .i64 (chkR flowR p).1,DI .i64 (chkR flowR p).2]∧h=[]):=by
 have hmx:=mx_eq
 have hv:=programValidI p hl hl2
 have ret:∀ (x:Int × Int) (hp:Hp),x=chkR flowR p→RetOb 0 (fun r h=>r = .tup [DI .i64 (chkR flowR p).1,DI .i64 (chkR flowR p).2]∧h=[]) (.tup [DI .i64 x.1,DI .i64 x.2]) hp:=fun x hp h=>by
  subst h
  exact RetOb.two ⟨rfl,rfl⟩
 generalize hR:(fun (r:D) (h:List (Option (List C)))=>r = .tup [DI .i64 (chkR flowR p).1,DI .i64 (chkR flowR p).2]∧h=[])=R at ret ⊢
 clear hR
 cases hq:progOK p with
 | false =>
  rw [hq] at hv
  have he:chkR flowR p=(5,-1):=by unfold chkR;rw [hq];rfl
  obtain ⟨vs,ar,bd⟩:=p
  refine dcZ Tryz.func50 ?_
  simp only [go_sem]
  iterate 4 ((try (refine drvZ Tryz.func50 ?_;simp only [go_sem]));((with_reducible and_intros)<;>try exact sd);(try first | refine XK.p hv ok53 ?_ | refine XK.gp hv ok53 ?_))
  exact ret (5,-1) _ he.symm
 | true =>
  rw [hq] at hv
  have hlab:=labs_of hq
  have hf:=firstOf p hq 88 ok88 flowR (fun d s c hc hs=>flowI p hl hl2 hlab.1 hlab.2 d s hs c hc)
  have he:=chk_fir flowR hq
  generalize firR flowR p=x at *
  obtain ⟨vs,ar,bd⟩:=p
  refine dcZ Tryz.func50 ?_
  simp only [go_sem]
  iterate 6 ((try (refine drvZ Tryz.func50 ?_;simp only [go_sem]));((with_reducible and_intros)<;>try exact sd);(try first | refine XK.p hv ok53 ?_ | refine XK.gp hv ok53 ?_ | refine XK.p hf ok51 ?_ | refine XK.gp hf ok51 ?_))
  exact ret x _ he.symm
def rfB (x:Bool):List C:=[.v (.bool x)]
def rfStep (x:Bool) (s:St1) (_:Nat):Bool:=x || s.kind == 5
theorem eachF_free (vs ar : List Int) : ∀ (d c : Nat) (l : List St1) (x : Bool), eachF vs ar rfStep d c x l = (x || !freeL d l)
 | 0,c,l,x=>by simp [eachF,freeL]
 | d+1,c,l,x=>by
  have key:∀ (l:List St1) (x:Bool),l.foldl (fun x s=>eachF vs ar rfStep d (ctxI vs ar s c) (eachF vs ar rfStep d (ctxI vs ar s c) (rfStep x s c) s.body) s.els) x=(x || !freeL (d+1) l):=by
   intro l
   induction l with
   | nil=>intro x;simp [freeL]
   | cons a r ih =>
    intro x
    rw [List.foldl_cons,ih,eachF_free vs ar d,eachF_free vs ar d]
    simp only [rfStep,freeL,List.all_cons]
    cases x<;>cases hk:a.kind == 5<;>cases freeL d a.body<;>cases freeL d a.els<;>simp_all [bne]
  exact key l x
def freeP (p:Pg):Bool:=progOK p && freeL 5 p.body
theorem free1 (x:Bool) (s:St1) (c:Nat):DC Tryz.prog 56 [.agg s.cells,DI .i64 c,.c (.ptr 0 0)] [some (rfB x)] (fun r h=>r = .tup []∧h=[some (rfB (rfStep x s c))]):=by
 obtain ⟨k,t,⟨ik,iv,iks⟩,⟨vk,vv,vks⟩,cc,b,e⟩:=s
 have fin:∀ (y:Bool) (hp:Hp),y=(x || k == 5)→hp 0=some (some [.v (.bool y)])→RetOb 1 (fun r h=>r = .tup []∧h=[some [.v (.bool (x || k == 5))]]) (.tup []) hp:=fun y hp hy g0=>by
  subst hy
  refine RetOb.ofQ some [] (.tup []) _ ?_ ⟨rfl,rfl⟩ (by simp)
  simp [enumL,DMs,DM,HpOK,LowOK,hOf,upd,CM,CMs,g0]
 have he:rfB (rfStep x (.mk k t (.mk ik iv iks) (.mk vk vv vks) cc b e) c)=[.v (.bool (x || k == 5))]:=rfl
 simp only [he]
 simp only [rfB]
 generalize hR:(fun (r:D) (h:List (Option (List C)))=>r = .tup []∧h=[some [.v (.bool (x || k == 5))]])=R at fin ⊢
 cases x
 all_goals
  refine dcZ Tryz.func56 ?_
  simp only [go_sem]
  iterate 3 ((try (refine drvZ Tryz.func56 ?_;simp only [go_sem]));((with_reducible and_intros)<;>try exact sd))
  refine fin _ _ ?_ rfl
  simp
theorem releaseFree (p:Pg) (hl:p.vars.length≤mx) (hl2:p.arrays.length≤mx):DC Tryz.prog 17 [.agg p.cells] [] (fun r h=>r=DB (freeP p)∧h=[]):=by
 have hmx:=mx_eq
 have hv:=programValidI p hl hl2
 generalize hR:(fun (r:D) (h:List (Option (List C)))=>r=DB (freeP p)∧h=[])=R
 cases hq:progOK p with
 | false =>
  rw [hq] at hv
  have hw:freeP p=false:=by unfold freeP;rw [hq];rfl
  rw [hw] at hR
  obtain ⟨vs,ar,bd⟩:=p
  refine dcZ Tryz.func17 ?_
  simp only [go_sem]
  iterate 3 ((try (refine drvZ Tryz.func17 ?_;simp only [go_sem]));((with_reducible and_intros)<;>try exact sd);(try first | refine XK.p hv ok53 ?_ | refine XK.gp hv ok53 ?_))
  subst hR
  exact RetOb.plain (d:=DB _) ⟨rfl,rfl⟩ rfl
 | true =>
  rw [hq] at hv
  have hlab:=labs_of hq
  have hbo:=body_of hq
  have hea := (each1 p hl hl2 hlab.1 hlab.2 56 ok56 rfB (fun x r h => by simp [rfB, renCs, renC]) (fun x hT hS fz h => by simp [rfB, CMs, CM]) rfStep
   (fun q x=>True) (fun d x s c q hq hx _ _=>⟨trivial,free1 x s c⟩) 5 p.body false 0 0 trivial (by decide) hbo.1 (by have:=hbo.2;omega)).2
  rw [eachF_free,Bool.false_or] at hea
  have hw:freeP p=freeL 5 p.body:=by unfold freeP;rw [hq];rfl
  rw [hw] at hR
  generalize freeL 5 p.body=w at *
  obtain ⟨vs,ar,bd⟩:=p
  simp only [rfB] at hea
  refine dcZ Tryz.func17 ?_
  simp only [go_sem]
  iterate 4 ((try (refine drvZ Tryz.func17 ?_;simp only [go_sem]));((with_reducible and_intros)<;>try exact sd);(try first | refine XK.p hv ok53 ?_ | refine XK.gp hv ok53 ?_))
  refine XK.callG [320] hea ok54 (hhpG (by simp [HH,upd,renCs,renC])) (hbT ()) (fun d h' ⟨_,e⟩=>by subst e;simp) ?_
  rintro _ _ ⟨rfl,rfl⟩ _
  iterate 4 ((try (refine drvZ Tryz.func17 ?_;simp only [go_sem,Bool.not_not]));((with_reducible and_intros)<;>try exact sd))
  subst hR
  exact RetOb.plain (d:=DB _) ⟨rfl,rfl⟩ rfl
theorem l2Ints (xs ys:List Int) (hl:xs.length≤mx):DC Tryz.prog 177 [ints xs,ints ys] [] (fun r h=>r=DB (decide (xs=ys))∧h=[]):=by
 have hmx:=mx_eq
 have ret:∀ (b:Bool) (hp:Hp),b=decide (xs=ys)→RetOb 0 (fun r h=>r=DB (decide (xs=ys))∧h=[]) (DB b) hp:=fun b hp h=>RetOb.plain (d:=DB _) ⟨by rw [h],rfl⟩ rfl
 by_cases hlen:xs.length=ys.length
 ·have hb:((xs.length:Int) != ys.length)=false:=by simp [hlen]
  have he:((xs.length:Int)=ys.length)=True:=eq_true (by omega)
  refine dc_of_go Tryz.func177 rfl (by simp) ?_
  refine drv_sound (n:=100) (rs:=_) Tryz.func177 mo rfl none _ _ ?_
  simp only [go_sem,ints,hb,he]
  refine Go.loopL (fun i:Nat=>[(0,ints xs),(1,ints ys),(5,DI .i64 i)]) (fun _=>[]) 1024 (fun i=>i≤xs.length∧decide (xs=ys)=decide (xs.drop i=ys.drop i)) (fun i=>xs.length - i) ?_ 0 some [] _ ⟨Nat.zero_le _,rfl⟩ ?_
  ·intro i hi again
   refine drv_sound (n:=100) (rs:=_) Tryz.func177 mo rfl none _ _ ?_
   rcases Nat.lt_or_ge i xs.length with hlt | hge
   ·obtain ⟨x,hx⟩:∃ x,xs[i]? = some x:=⟨xs[i],by simp [hlt]⟩
    obtain ⟨y,hy⟩:∃ y,ys[i]? = some y:=⟨ys[i]'(by omega),by simp⟩
    have hI:=hi.2
    obtain ⟨_,ex⟩:=List.getElem?_eq_some_iff.1 hx
    obtain ⟨hyl,ey⟩:=List.getElem?_eq_some_iff.1 hy
    rw [List.drop_eq_getElem_cons hlt,List.drop_eq_getElem_cons hyl,ex,ey] at hI
    simp only [go_sem,ints,hx,hy,hlt]
    (with_reducible and_intros)<;>try exact sd
    ·intro hne;exact ret _ _ (by rw [hI];simp [hne])
    ·intro heq;exact ⟨by simp only [InK];omega,again (i+1) some [] _ ⟨by omega,by rw [hI];simp [heq]⟩ (by omega) (Mt.slots (by
      simp only [go_sem,TmOK,DM,DMs,CM,CMs,forall_eq,exists_eq_left,ints]))⟩
   ·have hn:¬ i<xs.length:=by omega
    simp only [go_sem,ints,hn]
    refine ret _ _ ?_
    rw [hi.2,List.drop_of_length_le hge,List.drop_of_length_le (by omega)];rfl
  ·refine Mt.slots ?_
   simp only [go_sem,TmOK,DM,DMs,CM,CMs,forall_eq,exists_eq_left,ints]
 ·have hb:((xs.length:Int) != ys.length)=true:=by simp;omega
  have he:((xs.length:Int)=ys.length)=False:=eq_false (by omega)
  refine dc_of_go Tryz.func177 rfl (by simp) ?_
  refine drv_sound (n:=100) (rs:=_) Tryz.func177 mo rfl none _ _ ?_
  simp only [go_sem,ints,hb,he]
  refine ret _ _ ?_
  symm;rw [decide_eq_false_iff_not];intro h;exact hlen (by rw [h])
theorem exprSameS (e : Ex) (hl : e.kids.length ≤ 1000) (hk : ∀ x ∈ e.kids, DC Tryz.prog 216 [.agg x.cells, .agg x.cells] [] (fun r h => r = DB true ∧ h = [])) :
 DC Tryz.prog 216 [.agg e.cells,.agg e.cells] [] (fun r h=>r=DB true∧h=[]):=by
 have hmx:=mx_eq
 obtain ⟨k,v,ks⟩:=e
 have hl:ks.length≤1000:=hl
 simp only [Ex.kids] at hk
 have ret:∀ (hp:Hp),RetOb 0 (fun r h=>r=DB true∧h=[]) (DB true) hp:=fun hp=>RetOb.plain (d:=DB _) ⟨rfl,rfl⟩ rfl
 generalize hR:(fun (r:D) (h:List (Option (List C)))=>r=DB true∧h=[])=R at ret ⊢
 refine dcZ Tryz.func216 ?_
 simp only [go_sem]
 iterate 4 ((try (refine drvZ Tryz.func216 ?_;simp only [go_sem,bne_self_eq_false]));((with_reducible and_intros)<;>try exact sd))
 refine Go.loopQ (fun i:Nat=>[(2,.c (.ptr 0 0)),(3,.c (.ptr 64 0)),(5,DI .i64 i)]) (fun i=>[(0,some (Ex.cells (.mk k v ks))),(64,some (Ex.cells (.mk k v ks)))]) 4096 (fun i=>i≤ks.length) (fun i=>ks.length - i) ?_ 0 some [] _ (Nat.zero_le _) ?_
 ·intro i hi again
  rcases Nat.lt_or_ge i ks.length with hlt | hge
  ·obtain ⟨⟨k',v',s'⟩,hx⟩:∃ x,ks[i]? = some x:=⟨ks[i],by simp [hlt]⟩
   have hf:=hk _ (List.mem_of_getElem? hx)
   rw [← hR] at ret again ⊢
   refine drvL Tryz.func216 ?_
   simp only [go_sem,hx,hlt]
   iterate 5 ((try (refine drvZ Tryz.func216 ?_;simp only [go_sem,hx,hlt]));((with_reducible and_intros)<;>try exact sd);(try first | refine XK.p hf ok216 ?_ | refine XK.gp hf ok216 ?_))
   refine again (i+1) some [] _ hlt (by omega) ?_
   simp only [go_sem,TmOK,DM,DMs,CM,CMs,forall_eq,exists_eq_left,Mq,HpOK,LowOK]
   simp
  ·have hn:¬ i<ks.length:=by omega
   refine drvL Tryz.func216 ?_
   simp only [go_sem,hn]
   iterate 3 ((try (refine drvZ Tryz.func216 ?_;simp only [go_sem,hn]));((with_reducible and_intros)<;>try exact sd))
   exact ret _
 ·simp only [go_sem,TmOK,DM,DMs,CM,CMs,forall_eq,exists_eq_left,Mq,HpOK,LowOK]
  simp
theorem exprSameP (p : Pg) : ∀ (d : Nat) (e : Ex), shape p d e = true → DC Tryz.prog 216 [.agg e.cells, .agg e.cells] [] (fun r h => r = DB true ∧ h = [])
 | 0,e,h=>by simp [shape] at h
 | d+1,.mk k v ks,h=>by
  obtain ⟨g1,g2,_⟩:=shape_succ h
  exact exprSameS _ (by have:=(fits_len g1).1;simp only [Ex.kids];omega) fun x hx=>exprSameP p d x (g2 x hx)
theorem exprSameX {p:Pg} {e:Ex} (h:shape p 5 e=true∨e = .mk 0 0 []):DC Tryz.prog 216 [.agg e.cells,.agg e.cells] [] (fun r h=>r=DB true∧h=[]):=by
 rcases h with h | rfl
 ·exact exprSameP p 5 e h
 ·exact exprSameS _ (by simp [Ex.kids]) fun x hx=>by simp [Ex.kids] at hx
theorem sameBlockOf (l : List St1) (hl : l.length ≤ 1000) (hk : ∀ s ∈ l, DC Tryz.prog 204 [.agg s.cells, .agg s.cells] [] (fun r h => r = DB true ∧ h = [])) :
 DC Tryz.prog 178 [.c (.isl 11 (St1.cellsL l)),.c (.isl 11 (St1.cellsL l))] [] (fun r h=>r=DB true∧h=[]):=by
 have hmx:=mx_eq
 have ret:∀ (hp:Hp),RetOb 0 (fun r h=>r=DB true∧h=[]) (DB true) hp:=fun hp=>RetOb.plain (d:=DB _) ⟨rfl,rfl⟩ rfl
 generalize hR:(fun (r:D) (h:List (Option (List C)))=>r=DB true∧h=[])=R at ret ⊢
 refine dcZ Tryz.func178 ?_
 simp only [go_sem,bne_self_eq_false]
 iterate 4 ((try (refine drvZ Tryz.func178 ?_;simp only [go_sem,bne_self_eq_false]));((with_reducible and_intros)<;>try exact sd))
 refine Go.loopQ (fun i:Nat=>[(0,.c (.isl 11 (St1.cellsL l))),(1,.c (.isl 11 (St1.cellsL l))),(5,DI .i64 i)]) (fun i=>[]) 4096 (fun i=>i≤l.length) (fun i=>l.length - i) ?_ 0 some [] _ (Nat.zero_le _) ?_
 ·intro i hi again
  rcases Nat.lt_or_ge i l.length with hlt | hge
  ·obtain ⟨⟨k,t,⟨ik,iv,iks⟩,⟨vk,vv,vks⟩,cc,b,e⟩,hx⟩:∃ x,l[i]? = some x:=⟨l[i],by simp [hlt]⟩
   have hf:=hk _ (List.mem_of_getElem? hx)
   rw [← hR] at ret again ⊢
   refine drvL Tryz.func178 ?_
   simp only [go_sem,hx,hlt]
   iterate 5 ((try (refine drvZ Tryz.func178 ?_;simp only [go_sem,hx,hlt]));((with_reducible and_intros)<;>try exact sd);(try first | refine XK.p hf ok204 ?_ | refine XK.gp hf ok204 ?_))
   refine again (i+1) some [] _ hlt (by omega) ?_
   simp only [go_sem,TmOK,DM,DMs,CM,CMs,forall_eq,exists_eq_left,Mq,HpOK,LowOK]
   simp
  ·have hn:¬ i<l.length:=by omega
   refine drvL Tryz.func178 ?_
   simp only [go_sem,hn]
   iterate 3 ((try (refine drvZ Tryz.func178 ?_;simp only [go_sem,hn]));((with_reducible and_intros)<;>try exact sd))
   exact ret _
 ·simp only [go_sem,TmOK,DM,DMs,CM,CMs,forall_eq,exists_eq_left,Mq,HpOK,LowOK]
  simp
theorem sameStmtOf (s : St1) (hi : DC Tryz.prog 216 [.agg s.index.cells, .agg s.index.cells] [] (fun r h => r = DB true ∧ h = [])) (hv : DC Tryz.prog 216 [.agg s.value.cells, .agg s.value.cells] [] (fun r h => r = DB true ∧ h = []))
 (hb:DC Tryz.prog 178 [.c (.isl 11 (St1.cellsL s.body)),.c (.isl 11 (St1.cellsL s.body))] [] (fun r h=>r=DB true∧h=[])) (he:DC Tryz.prog 178 [.c (.isl 11 (St1.cellsL s.els)),.c (.isl 11 (St1.cellsL s.els))] [] (fun r h=>r=DB true∧h=[])) :
 DC Tryz.prog 204 [.agg s.cells,.agg s.cells] [] (fun r h=>r=DB true∧h=[]):=by
 obtain ⟨k,t,⟨ik,iv,iks⟩,⟨vk,vv,vks⟩,cc,b,e⟩:=s
 simp only [St1.index,St1.value,St1.body,St1.els] at hi hv hb he
 have ret:∀ (hp:Hp),RetOb 0 (fun r h=>r=DB true∧h=[]) (DB true) hp:=fun hp=>RetOb.plain (d:=DB _) ⟨rfl,rfl⟩ rfl
 generalize hR:(fun (r:D) (h:List (Option (List C)))=>r=DB true∧h=[])=R at ret ⊢
 refine dcZ Tryz.func204 ?_
 simp only [go_sem]
 rw [← hR] at ret ⊢
 iterate 9 ((try (refine drvZ Tryz.func204 ?_;simp only [go_sem]));((with_reducible and_intros)<;>try exact sd);(try first | refine XK.p hi ok216 ?_ | refine XK.gp hi ok216 ?_ | refine XK.p hv ok216 ?_ | refine XK.gp hv ok216 ?_ | refine XK.p hb ok178 ?_ | refine XK.gp hb ok178 ?_ | refine XK.p he ok178 ?_ | refine XK.gp he ok178 ?_))
 exact ret _
theorem sameBlockS (p : Pg) : ∀ (d : Nat) (l : List St1), (∀ s ∈ l, stmtOK p d s = true) → lsize d l ≤ 1000 → DC Tryz.prog 178 [.c (.isl 11 (St1.cellsL l)), .c (.isl 11 (St1.cellsL l))] [] (fun r h => r = DB true ∧ h = [])
 | 0,l,hok,_=>by
  have hnil:l=[]:=by
   cases l with
   | nil=>rfl
   | cons a r=>have:=hok a (by simp);simp [stmtOK] at this
  subst hnil
  exact sameBlockOf [] (by simp) fun s hs=>by simp at hs
 | d+1,l,hok,hsz=>by
  have hll:l.length≤1000:=by have:=lsize_subs d l;omega
  refine sameBlockOf l hll fun s hs=>?_
  have hso:=hok s hs
  have hts:=mem_le_lsize (d:=d+1) hs
  have hsub:=tsize_subs d s
  simp only [subs] at hsub
  obtain ⟨k,t,ix,v,cc,b,e⟩:=s
  have hx:=CtD.exprs_of hso
  have hbo:=stmtOK_succ hso
  simp only [St1.body,St1.els] at hsub
  exact sameStmtOf _ (exprSameX hx.1) (exprSameX hx.2) (sameBlockS p d b hbo.2.1 (by omega)) (sameBlockS p d e hbo.2.2 (by omega))
theorem programSameS (q : Pg) (vs vs' ar ar' : List Int) (bd : List St1) (hl : vs.length ≤ mx) (hl2 : ar.length ≤ mx) (hok : ∀ s ∈ bd, stmtOK q 5 s = true) (hsz : lsize 5 bd ≤ 1000) :
 DC Tryz.prog 125 [.agg (Pg.cells ⟨vs,ar,bd⟩),.agg (Pg.cells ⟨vs',ar',bd⟩)] [] (fun r h=>r=DB (decide (vs=vs') && decide (ar=ar'))∧h=[]):=by
 have h1:=l2Ints vs vs' hl
 have h2:=l2Ints ar ar' hl2
 have h3:=sameBlockS q 5 bd hok hsz
 unfold ints at h1 h2
 generalize decide (vs=vs')=b1 at *
 generalize decide (ar=ar')=b2 at *
 generalize hR:(fun (r:D) (h:List (Option (List C)))=>r=DB (b1 && b2)∧h=[])=R
 cases b1
 ·refine dcZ Tryz.func125 ?_
  simp only [go_sem]
  iterate 5 ((try (refine drvZ Tryz.func125 ?_;simp only [go_sem]));((with_reducible and_intros)<;>try exact sd);(try first | refine XK.p h1 ok177 ?_ | refine XK.gp h1 ok177 ?_ | refine XK.gs (DB false) ?_))
  subst hR
  exact RetOb.plain (d:=DB _) ⟨rfl,rfl⟩ rfl
 ·cases b2
  all_goals
   refine dcZ Tryz.func125 ?_
   simp only [go_sem]
   iterate 5 ((try (refine drvZ Tryz.func125 ?_;simp only [go_sem]));((with_reducible and_intros)<;>try exact sd);(try first | refine XK.p h1 ok177 ?_ | refine XK.gp h1 ok177 ?_ | refine XK.p h2 ok177 ?_ | refine XK.gp h2 ok177 ?_ | refine XK.p h3 ok178 ?_ | refine XK.gp h3 ok178 ?_ | refine XK.gs (DB false) ?_))
   subst hR
   exact RetOb.plain (d:=DB _) ⟨rfl,rfl⟩ rfl
theorem labelO (vs ar:List Int) (bd:List St1) (q:Pg) (hqv:q.vars.length=vs.length) (hqa:q.arrays.length=ar.length) (hl:vs.length≤mx) (hl2:ar.length≤mx) (h1:lab3 vs) (h2:lab3 ar):∀ (d:Nat) (e:Ex),shape q d e=true →
 DC Tryz.prog 142 [.agg [.msl 0 1 0 vs.length, .msl 1 1 0 ar.length, .isl 11 (St1.cellsL bd)], .agg e.cells] [some (vs.map I64), some (ar.map I64)]
  (fun r h=>r=DI .i64 (labN vs ar d e)∧h=[some (vs.map I64),some (ar.map I64)]):=by
 have hmx:=mx_eq
 intro d
 induction d with
 | zero=>intro e h;simp [shape] at h
 | succ d ih =>
  intro e hsh
  obtain ⟨k,v,ks⟩:=e
  obtain ⟨g1,g2,g3⟩:=shape_succ hsh
  obtain ⟨hl3,hla,hv0,hv1⟩:=fits_len g1
  generalize hR:(fun (r:D) (h:List (Option (List C)))=>r=DI .i64 (labN vs ar (d+1) (.mk k v ks))∧h=[some (vs.map I64),some (ar.map I64)])=R
  have hle:=fun e=>labN_le h1 h2 d e
  have hacc:∀ i,((ks.take i).map (labN vs ar d)).foldl (fun a b=>a ||| b) (labB vs ar k v)≤3:=fun i=>by
   have:=labN_le h1 h2 (d+1) (.mk k v (ks.take i))
   exact this
  have hlb:labB vs ar k v≤3:=hacc 0
  have key:k=2∨k=3∨(k ≠ 2∧k ≠ 3):=by omega
  rcases key with hk | hk | hk
  case' inl =>
   have hv1':v<vs.length:=by subst hk;simpa [limit,hqv,hqa] using hv1
   have hx:=(nth_mem (l:=vs) hv0 hv1').1
   have hB:((labB vs ar k v:Nat):Int)=nth vs v:=by have:=nth_lab h1 v;simp [labB,hk];omega
   have e2:(k == 2)=true:=by simp [hk]
   refine dcZ Tryz.func142 ?_
   simp only [go_sem]
   iterate 4 ((try (refine drvZ Tryz.func142 ?_;simp only [go_sem,hx,e2,eq_true hk]));((with_reducible and_intros)<;>try exact sd))
  case' inr.inl =>
   have hv1':v<ar.length:=by subst hk;simpa [limit,hqv,hqa] using hv1
   have hx:=(nth_mem (l:=ar) hv0 hv1').1
   have hB:((labB vs ar k v:Nat):Int)=nth ar v:=by have:=nth_lab h2 v;simp [labB,hk];omega
   have e2:(k == 2)=false:=by simp [hk]
   have e3:(k == 3)=true:=by simp [hk]
   have f2:(k=2)=False:=by simp [hk]
   refine dcZ Tryz.func142 ?_
   simp only [go_sem]
   iterate 4 ((try (refine drvZ Tryz.func142 ?_;simp only [go_sem,hx,e2,e3,f2,eq_true hk]));((with_reducible and_intros)<;>try exact sd))
  case' inr.inr =>
   have hB:((labB vs ar k v:Nat):Int)=0:=by simp [labB,hk.1,hk.2]
   have e2:(k == 2)=false:=by simp [hk.1]
   have e3:(k == 3)=false:=by simp [hk.2]
   have hk2:=hk.1
   have hk3:=hk.2
   refine dcZ Tryz.func142 ?_
   simp only [go_sem]
   iterate 4 ((try (refine drvZ Tryz.func142 ?_;simp only [go_sem,e2,e3,hk2,hk3]));((with_reducible and_intros)<;>try exact sd))
  all_goals
   clear hk
   refine Go.loopQ (fun i : Nat => [(2, .c (.ptr 2 0)), (3, .c (.ptr 66 0)), (5, DI .i64 (((ks.take i).map (labN vs ar d)).foldl (fun a b => a ||| b) (labB vs ar k v) : Nat)), (6, DI .i64 i)]) (fun i => [(0, some (vs.map I64)), (1, some (ar.map I64)), (2, some [.msl 0 1 0 vs.length, .msl 1 1 0 ar.length, .isl 11 (St1.cellsL bd)]), (66, some (Ex.cells (.mk k v ks)))])
    4096 (fun i=>i≤ks.length) (fun i=>ks.length - i) ?_ 0 some [] _ (Nat.zero_le _) ?_
   ·intro i hi again
    rcases Nat.lt_or_ge i ks.length with hlt | hge
    ·obtain ⟨⟨k',v',ks'⟩,hx⟩:∃ x,ks[i]? = some x:=⟨ks[i],by simp [hlt]⟩
     have hsc:=lab_succ (labN vs ar d) (labB vs ar k v) ks i _ hx
     have ha:=hacc i
     have hb:=hle (.mk k' v' ks')
     have hc:=hacc (i+1)
     rw [hsc] at hc
     have hi:=ih (.mk k' v' ks') (g2 _ (List.mem_of_getElem? hx))
     generalize ((ks.take i).map (labN vs ar d)).foldl (fun a b=>a ||| b) (labB vs ar k v)=acc at *
     refine drvL Tryz.func142 ?_
     simp only [go_sem,hx,hlt]
     iterate 3 ((try (refine drvZ Tryz.func142 ?_;simp only [go_sem,hx,hlt]));((with_reducible and_intros)<;>try exact sd))
     refine XK.callG [0,1] hi ok142 (hhpG (by simp [HH,upd,renCs_I])) (hbT ()) (fun d h' ⟨_,e⟩=>by subst e;simp) ?_ (fun _=>⟨by kernel_rfl,_,_,⟨rfl,rfl⟩,by simp⟩)
     rintro _ _ ⟨rfl,rfl⟩ _
     iterate 4 ((try (refine drvZ Tryz.func142 ?_;simp only [go_sem,hx,hlt,renCs_I]));((with_reducible and_intros)<;>try exact sd))
     refine again (i+1) some [] _ hlt (by omega) ?_
     simp only [go_sem,TmOK,DM,DMs,CM,CMs,forall_eq,exists_eq_left,Mq,HpOK,LowOK,hsc]
     simp [CMs_I]
     rw [← List.map_take,hsc]
    ·have hn:¬ i<ks.length:=by omega
     obtain rfl:i=ks.length:=by omega
     refine drvL Tryz.func142 ?_
     simp only [go_sem,hn,List.take_length]
     iterate 2 ((try (refine drvZ Tryz.func142 ?_;simp only [go_sem,hn,List.take_length]));((with_reducible and_intros)<;>try exact sd))
     refine RetOb.ofQ some [] (DI .i64 _) _ ?_ (by rw [← hR];exact ⟨rfl,rfl⟩) (by simp)
     simp [enumL,DM,DMs,CM,HpOK,LowOK,hOf,upd,CMs_I]
     rfl
   ·simp only [go_sem,TmOK,DM,DMs,CM,CMs,forall_eq,exists_eq_left,Mq,HpOK,LowOK,List.take_zero,List.map_nil,List.foldl_nil]
    simp [hB,CMs_I]
theorem i_set (l:List Int) (j:Nat) (x:Int):(l.map I64).set j (.v (.int .i64 x))=(l.set j x).map I64:=by rw [List.map_set]
structure Up (l l' : List Int) : Prop where
 len:l'.length=l.length
 lab:lab3 l'
 le:∀ (i:Nat) (x x':Int),l[i]? = some x→l'[i]? = some x'→x≤x'
theorem Up.refl {l:List Int} (h:lab3 l):Up l l:=⟨rfl,h,fun i x x' a b=>by rw [a] at b;cases b;exact Int.le_refl _⟩
theorem Up.trans {a b c:List Int} (h:Up a b) (h':Up b c):Up a c :=
 ⟨h'.len.trans h.len,h'.lab,fun i x x' h1 h2=>by
  have hi:i<b.length:=by have:=(List.getElem?_eq_some_iff.1 h1).1;rw [h.len];exact this
  exact Int.le_trans (h.le i x b[i] h1 (by simp [hi])) (h'.le i b[i] x' (by simp [hi]) h2)⟩
theorem Up.set {l l':List Int} (h:Up l l') {i T n:Nat} (ht:l'[i]? = some (T:Int)) (hn:n≤3) (hT:T≤n):Up l (l'.set i (n:Int)) :=
 ⟨by rw [List.length_set,h.len],fun x hx=>by
  rcases List.mem_or_eq_of_mem_set hx with h1 | rfl
  ·exact h.lab x h1
  ·omega,fun j x x' h1 h2=>by
  rw [List.getElem?_set] at h2
  by_cases e:i=j
  ·subst e
   have hlt:=(List.getElem?_eq_some_iff.1 ht).1
   rw [if_pos rfl,if_pos hlt] at h2
   cases h2
   have:=h.le i x T h1 ht
   omega
  ·rw [if_neg e] at h2;exact h.le j x x' h1 h2⟩
def raR (vs ar:List Int) (r:D) (h:List (Option (List C))):Prop:=∃ vs' ar',r = .tup []∧Up vs vs'∧Up ar ar'∧h=[some (vs'.map I64),some (ar'.map I64)]
theorem raise (q:Pg) (bd:List St1) (hl:q.vars.length≤1000) (hl2:q.arrays.length≤1000):∀ (d:Nat) (l:List St1) (vs ar:List Int) (c:Nat),vs.length=q.vars.length→ar.length=q.arrays.length→lab3 vs→lab3 ar→c≤3→(∀ s ∈ l,stmtOK q d s=true)→l.length≤1000 →
 (∀ s ∈ l,lsize d l≤1000) →
 DC Tryz.prog 124 [.agg [.msl 0 1 0 vs.length,.msl 1 1 0 ar.length,.isl 11 (St1.cellsL bd)],.c (.isl 11 (St1.cellsL l)),DI .i64 c] [some (vs.map I64),some (ar.map I64)] (raR vs ar):=by
 have hmx:=mx_eq
 intro d
 induction d with
 | zero =>
  intro l vs ar c hv ha h1 h2 hc hok hll hsz
  have hnil:l=[]:=by
   cases l with
   | nil=>rfl
   | cons a r=>have:=hok a (by simp);simp [stmtOK] at this
  subst hnil
  generalize hR:raR vs ar=R
  have hz:((0:Int)<0)=False:=eq_false (by omega)
  refine dcZ Tryz.func124 ?_
  simp only [go_sem,St1.cellsL,Int.natCast_zero]
  refine Go.loop ?_
  refine drvL Tryz.func124 ?_
  simp only [go_sem,St1.cellsL,Int.natCast_zero,hz]
  iterate 2 ((try (refine drvZ Tryz.func124 ?_;simp only [go_sem,St1.cellsL,Int.natCast_zero,hz]));((with_reducible and_intros)<;>try exact sd))
  refine RetOb.ofQ some [] (.tup []) [some (vs.map I64),some (ar.map I64)] ?_ (by rw [← hR];exact ⟨vs,ar,rfl,.refl h1,.refl h2,rfl⟩) (by simp)
  simp [enumL,DM,DMs,CM,HpOK,LowOK,hOf,upd,CMs_I,hpL]
 | succ d ih =>
  intro l vs ar c hv ha h1 h2 hc hok hll hsz
  generalize hR:raR vs ar=R
  refine dcZ Tryz.func124 ?_
  simp only [go_sem]
  refine Go.loopQ (fun σ : Nat × List Int × List Int => [(1, .c (.isl 11 (St1.cellsL l))), (2, DI .i64 c), (3, .c (.ptr 2 0)), (6, DI .i64 σ.1)])
   (fun σ=>[(0,some (σ.2.1.map I64)),(1,some (σ.2.2.map I64)),(2,some [.msl 0 1 0 vs.length,.msl 1 1 0 ar.length,.isl 11 (St1.cellsL bd)])]) 4096 (fun σ=>σ.1≤l.length∧Up vs σ.2.1∧Up ar σ.2.2) (fun σ=>l.length - σ.1) ?_ (0,vs,ar) some [] _ ⟨Nat.zero_le _,.refl h1,.refl h2⟩ ?_
  ·rintro ⟨i,xs,ys⟩ ⟨hi,hux,huy⟩ again
   simp only at hi hux huy
   have hxl:=hux.len
   have hyl:=huy.len
   rcases Nat.lt_or_ge i l.length with hlt | hge
   ·obtain ⟨⟨k,t,⟨ik,iv,iks⟩,⟨vk,vv,vks⟩,cc,b,e⟩,hs⟩:∃ s,l[i]? = some s:=⟨l[i],by simp [hlt]⟩
    have hmem:=List.mem_of_getElem? hs
    have hso:=hok _ hmem
    have hsz:=hsz _ hmem
    have hts:=mem_le_lsize (d:=d+1) hmem
    have hsub:=tsize_subs d (.mk k t (.mk ik iv iks) (.mk vk vv vks) cc b e)
    simp only [subs,St1.body,St1.els] at hsub
    have hbo:=stmtOK_succ hso
    obtain ⟨s1,s2⟩:=shapeV hso
    have hlabv:=fun h=>labelO xs ys bd q (by omega) (by omega) (by omega) (by omega) hux.lab huy.lab 5 (.mk vk vv vks) (s1 h)
    have hlabi:=fun h=>labelO xs ys bd q (by omega) (by omega) (by omega) (by omega) hux.lab huy.lab 5 (.mk ik iv iks) (s2 h)
    have hlev:=labN_le hux.lab huy.lab 5 (.mk vk vv vks)
    have hlei:=labN_le hux.lab huy.lab 5 (.mk ik iv iks)
    have hbl:∀ bl:List St1,lsize d bl≤1000→(∀ s ∈ bl,stmtOK q d s=true)→bl.length≤1000:=fun bl h hk=>by
     cases d with
     | zero =>
      cases bl with
      | nil=>simp
      | cons a r=>have:=hk a (by simp);simp [stmtOK] at this
     | succ d=>have:=lsize_subs d bl;omega
    have hrb:=fun c' hc' vs' ar' h1 h2 h3 h4=>ih b vs' ar' c' h1 h2 h3 h4 hc' hbo.2.1 (hbl b (by omega) hbo.2.1) (fun _ _=>by omega)
    have hre:=fun c' hc' vs' ar' h1 h2 h3 h4=>ih e vs' ar' c' h1 h2 h3 h4 hc' hbo.2.2 (hbl e (by omega) hbo.2.2) (fun _ _=>by omega)
    generalize labN xs ys 5 (.mk vk vv vks)=lv at *
    generalize labN xs ys 5 (.mk ik iv iks)=li at *
    rw [hxl,hyl] at hlabv hlabi
    rcases head_kind hbo.1 with ⟨hk,ht0,ht1,hr⟩ | ⟨rfl,ht0,ht1,hri,hat,hr⟩ | ⟨rfl,hr⟩ | ⟨rfl,_,_⟩
    ·rcases hk with rfl | rfl
     ·have hlabv:=hlabv (by decide)
      obtain ⟨T,hT,hTe,htt⟩:=lab_at hux.lab ht0 (by omega)
      have hor:=or3 hT hlev
      have hor2:=or3 hor hc
      refine drvL Tryz.func124 ?_
      simp only [go_sem,hs,hlt]
      iterate 4 ((try (refine drvZ Tryz.func124 ?_;simp only [go_sem,hs,hlt,htt]));((with_reducible and_intros)<;>try exact sd))
      refine XK.rp [0,1] hlabv ok142 (by simp [HH,upd,hOf,renCs_I]) ⟨kfs_mapI _ (kf_I _),kfs_mapI _ (kf_I _),trivial⟩ ?_
      iterate 4 ((try (refine drvZ Tryz.func124 ?_;simp only [go_sem,hs,hlt,renCs_I,i_set,htt]));((with_reducible and_intros)<;>try exact sd))
      refine again (i+1,xs.set t.toNat (T ||| lv ||| c:Nat),ys) some [] _ ⟨hlt,hux.set htt hor2 (Nat.le_trans Nat.left_le_or Nat.left_le_or),huy⟩ (show l.length - (i+1)<l.length - i by omega) ?_
      simp only [go_sem,TmOK,DM,DMs,CM,CMs,forall_eq,exists_eq_left,Mq,HpOK,LowOK]
      simp [CMs_I]
      try exact CMs.kf (by rw [← List.map_set];exact kf_I _)
     ·refine drvL Tryz.func124 ?_
      simp only [go_sem,hs,hlt,renCs_I,i_set]
      iterate 5 ((try (refine drvZ Tryz.func124 ?_;simp only [go_sem,hs,hlt,renCs_I,i_set]));((with_reducible and_intros)<;>try exact sd))
      refine again (i+1,xs,ys) some [] _ ⟨hlt,hux,huy⟩ (show l.length - (i+1)<l.length - i by omega) ?_
      simp only [go_sem,TmOK,DM,DMs,CM,CMs,forall_eq,exists_eq_left,Mq,HpOK,LowOK]
      simp [CMs_I]
      try exact CMs.kf (by rw [← List.map_set];exact kf_I _)
    ·have hlabv:=hlabv (by decide)
     have hlabi:=hlabi rfl
     obtain ⟨T,hT,hTe,htt⟩:=lab_at huy.lab ht0 (by omega)
     have hor:=or3 hT hlev
     have hor1:=or3 hor hlei
     have hor2:=or3 hor1 hc
     ·refine drvL Tryz.func124 ?_
      simp only [go_sem,hs,hlt,renCs_I,i_set]
      iterate 5 ((try (refine drvZ Tryz.func124 ?_;simp only [go_sem,hs,hlt,renCs_I,i_set,htt]));((with_reducible and_intros)<;>try exact sd))
      refine XK.rp [0,1] hlabv ok142 (by simp [HH,upd,hOf,renCs_I]) ⟨kfs_mapI _ (kf_I _),kfs_mapI _ (kf_I _),trivial⟩ ?_
      iterate 3 ((try (refine drvZ Tryz.func124 ?_;simp only [go_sem,hs,hlt,renCs_I,i_set,htt]));((with_reducible and_intros)<;>try exact sd))
      refine XK.rp [0,1] hlabi ok142 (by simp [HH,upd,hOf,renCs_I]) ⟨kfs_mapI _ (kf_I _),kfs_mapI _ (kf_I _),trivial⟩ ?_
      iterate 4 ((try (refine drvZ Tryz.func124 ?_;simp only [go_sem,hs,hlt,renCs_I,i_set,htt]));((with_reducible and_intros)<;>try exact sd))
      refine again (i+1,xs,ys.set t.toNat (T ||| lv ||| li ||| c:Nat)) some [] _ ⟨hlt,hux,huy.set htt hor2 (Nat.le_trans Nat.left_le_or (Nat.le_trans Nat.left_le_or Nat.left_le_or))⟩ (show l.length - (i+1)<l.length - i by omega) ?_
      simp only [go_sem,TmOK,DM,DMs,CM,CMs,forall_eq,exists_eq_left,Mq,HpOK,LowOK]
      simp [CMs_I]
      try exact CMs.kf (by rw [← List.map_set];exact kf_I _)
    ·have hlabv:=hlabv (by decide)
     have hor:=or3 hc hlev
     have hA:=hux.lab
     have hB:=huy.lab
     have hrb:=hrb _ hor xs ys (by omega) (by omega) hA hB
     rw [hxl,hyl] at hrb
     ·refine drvL Tryz.func124 ?_
      simp only [go_sem,hs,hlt,renCs_I,i_set]
      iterate 5 ((try (refine drvZ Tryz.func124 ?_;simp only [go_sem,hs,hlt,renCs_I,i_set]));((with_reducible and_intros)<;>try exact sd))
      refine XK.rp [0,1] hlabv ok142 (by simp [HH,upd,hOf,renCs_I]) ⟨kfs_mapI _ (kf_I _),kfs_mapI _ (kf_I _),trivial⟩ ?_
      iterate 3 ((try (refine drvZ Tryz.func124 ?_;simp only [go_sem,hs,hlt,renCs_I,i_set]));((with_reducible and_intros)<;>try exact sd))
      refine XK.callG [0,1] hrb ok124 (hhpG (by simp [HH,upd,hOf,renCs_I])) (hbT ()) (fun d h' ⟨_,_,_,_,_,e⟩=>by subst e;simp) ?_ (fun _=>⟨by kernel_rfl,_,_,⟨xs,ys,rfl,.refl hA,.refl hB,rfl⟩,by simp⟩)
      rintro _ _ ⟨xs2,ys2,rfl,u1,u2,rfl⟩ _
      have hxl2:=u1.len
      have hyl2:=u2.len
      have hlab2:=labelO xs2 ys2 bd q (by omega) (by omega) (by omega) (by omega) u1.lab u2.lab 5 (.mk vk vv vks) (s1 (by decide))
      have hlev2:=labN_le u1.lab u2.lab 5 (.mk vk vv vks)
      generalize labN xs2 ys2 5 (.mk vk vv vks)=lv2 at *
      have hor2:=or3 hc hlev2
      have hA:=u1.lab
      have hB:=u2.lab
      have hre:=hre _ hor2 xs2 ys2 (by omega) (by omega) hA hB
      rw [hxl2,hyl2,hxl,hyl] at hre hlab2
      iterate 5 ((try (refine drvZ Tryz.func124 ?_;simp only [go_sem,hs,hlt,renCs_I,i_set]));((with_reducible and_intros)<;>try exact sd))
      refine XK.rp [0,1] hlab2 ok142 (by simp [HH,upd,hOf,renCs_I]) ⟨kfs_mapI _ (kf_I _),kfs_mapI _ (kf_I _),trivial⟩ ?_
      iterate 3 ((try (refine drvZ Tryz.func124 ?_;simp only [go_sem,hs,hlt,renCs_I,i_set]));((with_reducible and_intros)<;>try exact sd))
      refine XK.callG [0,1] hre ok124 (hhpG (by simp [HH,upd,hOf,renCs_I])) (hbT ()) (fun d h' ⟨_,_,_,_,_,e⟩=>by subst e;simp) ?_ (fun _=>⟨by kernel_rfl,_,_,⟨xs2,ys2,rfl,.refl hA,.refl hB,rfl⟩,by simp⟩)
      rintro _ _ ⟨xs3,ys3,rfl,u3,u4,rfl⟩ _
      iterate 5 ((try (refine drvZ Tryz.func124 ?_;simp only [go_sem,hs,hlt,renCs_I,i_set]));((with_reducible and_intros)<;>try exact sd))
      refine again (i+1,xs3,ys3) some [] _ ⟨hlt,(hux.trans u1).trans u3,(huy.trans u2).trans u4⟩ (show l.length - (i+1)<l.length - i by omega) ?_
      simp only [go_sem,TmOK,DM,DMs,CM,CMs,forall_eq,exists_eq_left,Mq,HpOK,LowOK]
      simp [CMs_I]
      try exact CMs.kf (by rw [← List.map_set];exact kf_I _)
    ·have hrb:=hrb c hc xs ys (by omega) (by omega) hux.lab huy.lab
     rw [hxl,hyl] at hrb
     ·refine drvL Tryz.func124 ?_
      simp only [go_sem,hs,hlt,renCs_I,i_set]
      iterate 5 ((try (refine drvZ Tryz.func124 ?_;simp only [go_sem,hs,hlt,renCs_I,i_set]));((with_reducible and_intros)<;>try exact sd))
      refine XK.callG [0,1] hrb ok124 (hhpG (by simp [HH,upd,hOf,renCs_I])) (hbT ()) (fun d h' ⟨_,_,_,_,_,e⟩=>by subst e;simp) ?_
      rintro _ _ ⟨xs2,ys2,rfl,u1,u2,rfl⟩ _
      iterate 5 ((try (refine drvZ Tryz.func124 ?_;simp only [go_sem,hs,hlt,renCs_I,i_set]));((with_reducible and_intros)<;>try exact sd))
      refine again (i+1,xs2,ys2) some [] _ ⟨hlt,hux.trans u1,huy.trans u2⟩ (show l.length - (i+1)<l.length - i by omega) ?_
      simp only [go_sem,TmOK,DM,DMs,CM,CMs,forall_eq,exists_eq_left,Mq,HpOK,LowOK]
      simp [CMs_I]
      try exact CMs.kf (by rw [← List.map_set];exact kf_I _)
   ·have hn:¬ i<l.length:=by omega
    refine drvL Tryz.func124 ?_
    simp only [go_sem,hn]
    iterate 3 ((try (refine drvZ Tryz.func124 ?_;simp only [go_sem,hn]));((with_reducible and_intros)<;>try exact sd))
    refine RetOb.ofQ some [] (.tup []) [some (xs.map I64),some (ys.map I64)] ?_ (by rw [← hR];exact ⟨xs,ys,rfl,hux,huy,rfl⟩) (by simp)
    simp [enumL,DM,DMs,CM,HpOK,LowOK,hOf,upd,CMs_I]
  ·simp only [go_sem,TmOK,DM,DMs,CM,CMs,forall_eq,exists_eq_left,Mq,HpOK,LowOK]
   simp [CMs_I]
end Go.Proofs.YtmjkgjkkpaephaaGreat.CtR
namespace Go.Proofs.YtmjkgjkkpaephaaGreat.CtD
open Go Go.CT CtF CtR
def inR (p:Pg) (r:D) (h:List (Option (List C))):Prop:=∃ (q:Pg) (ok:Bool),r = .tup [.agg q.cells,DB ok]∧h=[]∧(ok=true→Up p.vars q.vars∧Up p.arrays q.arrays∧q.body=p.body∧progOK p=true)
def roomL (l:List Int):Nat:=(l.map fun x=>(3 - x).toNat).sum
theorem room_le:∀ {l l':List Int},lab3 l→CtR.Up l l'→roomL l'≤roomL l∧(l ≠ l'→roomL l' < roomL l):=by
 intro l
 induction l with
 | nil=>intro l' _ h;have:=h.len;cases l' with
  | nil=>simp
  | cons a r=>simp at this
 | cons x r ih =>
  intro l' hl h
  have hlen:=h.len
  cases l' with
  | nil=>simp at hlen
  | cons y s =>
   have hx:=hl x (by simp)
   have hy:=h.lab y (by simp)
   have hxy:=h.le 0 x y rfl rfl
   have h2:CtR.Up r s:=⟨by simpa using hlen,fun z hz=>h.lab z (by simp [hz]),fun i a b ha hb=>h.le (i+1) a b (by simpa using ha) (by simpa using hb)⟩
   obtain ⟨g1,g2⟩:=ih (fun z hz=>hl z (by simp [hz])) h2
   have e:∀ (z:Int) (t:List Int),roomL (z :: t)=(3 - z).toNat+roomL t:=fun z t=>by simp [roomL]
   rw [e,e]
   refine ⟨by omega,fun hne=>?_⟩
   by_cases hxe:x=y
   ·subst hxe
    have:=g2 (fun e=>hne (by rw [e]))
    omega
   ·omega
theorem inferS (p:Pg) (hl:p.vars.length≤1000) (hl2:p.arrays.length≤1000) (hb:lsize 5 p.body≤1099511627776) (k:Nat) (hsm:∀ s ∈ p.body,SmS k s):DC Tryz.prog 85 [.agg p.cells] [] (inR p):=by
 have hmx:=mx_eq
 have hv:=programValidS p (by omega) (by omega) hb
 generalize hR:inR p=R
 cases hq:progOK p with
 | false =>
  rw [hq] at hv
  obtain ⟨vs,ar,bd⟩:=p
  refine dcZ Tryz.func85 ?_
  simp only [go_sem]
  iterate 4 ((try (refine drvZ Tryz.func85 ?_;simp only [go_sem]));((with_reducible and_intros)<;>try exact sd);(try first | refine XK.p hv ok97 ?_ | refine XK.gp hv ok97 ?_))
  refine RetOb.ofQ (fun _=>none) [] (.tup [.agg (Pg.cells ⟨[],[],[]⟩),DB false]) [] ?_ (by rw [← hR];exact ⟨_,false,rfl,rfl,fun h=>by cases h⟩) (by simp)
  simp [enumL,DM,DMs,CM,CMs,HpOK,LowOK,Pg.cells,isI,St1.cellsL]
 | true =>
  rw [hq] at hv
  have hlab:=labs_of hq
  have hbo:=body_of hq
  have hbl:p.body.length≤60:=by have h2:lsize 5 p.body=_:=lsize_subs 4 p.body;have:=hbo.2;omega
  have hcp:=fun vs ar h1 h2=>l2Copy ⟨vs,ar,p.body⟩ k h1 h2 (show p.body.length≤1000 by omega) hsm
  have hra:=fun vs ar=>raise p p.body hl hl2 5 p.body vs ar 0
  have hsa:=fun vs vs' ar ar' h1 h2=>programSameS p vs vs' ar ar' p.body h1 h2 hbo.1 (by have:=hbo.2;omega)
  have hcf:=fun vs ar h1 h2=>checkFlowS ⟨vs,ar,p.body⟩ h1 h2 (show lsize 5 p.body≤1099511627776 by omega)
  have hbk:=hbo.1
  have hbs:=hbo.2
  obtain ⟨vs,ar,bd⟩:=p
  simp only at hcp hra hsa hcf hl hl2 hlab hbl hbk hbs
  have hc0:=hcp vs ar hl hl2
  try simp only at hc0
  refine dcZ Tryz.func85 ?_
  simp only [go_sem]
  iterate 4 ((try (refine drvZ Tryz.func85 ?_;simp only [go_sem]));((with_reducible and_intros)<;>try exact sd);(try first | refine XK.p hv ok97 ?_ | refine XK.gp hv ok97 ?_))
  refine XK.callG [] hc0 ok80 (fun i' x h=>by simp at h) (hbT ()) (fun d h' ⟨_,e⟩=>by subst e;simp) ?_
  rintro _ _ ⟨rfl,rfl⟩ _
  iterate 4 ((try (refine drvZ Tryz.func85 ?_;simp only [go_sem,renCs_I,renCs_stC]));((with_reducible and_intros)<;>try exact sd))
  have hstl:bd.map St1.cells=St1.cellsL bd:=(St1.cellsL_eq bd).symm
  have hfl:(St1.cellsL bd).flatten=stC bd:=by rw [St1.cellsL_eq];rfl
  have hbz:∀ x ∈ St1.cellsL bd,x.length=11:=fun x hx=>by
   rw [St1.cellsL_eq] at hx
   obtain ⟨s,_,rfl⟩:=List.mem_map.1 hx
   obtain ⟨k,t,⟨ik,iv,iks⟩,⟨vk,vv,vks⟩,cc,b,e⟩:=s
   rfl
  have hbkf:∀ x ∈ St1.cellsL bd,∀ c ∈ x,kf c=true:=fun x hx=>by
   rw [St1.cellsL_eq] at hx
   obtain ⟨s,_,rfl⟩:=List.mem_map.1 hx
   exact st_kf s
  have hcl:bd.length=(St1.cellsL bd).length:=(St1.cellsL_length bd).symm
  refine Go.loopQ (fun σ : List Int × List Int => [(2, .c (.ptr 64 0)), (3, DB false), (4, .c (.ptr 512 0))])
   (fun σ=>[(64,some [.v (.slice none 0 0),.v (.slice none 0 0),.v (.slice none 0 0)]),(512,some (Pg.cells ⟨σ.1,σ.2,bd⟩))]) 4096 (fun σ=>CtR.Up vs σ.1∧CtR.Up ar σ.2) (fun σ=>roomL σ.1+roomL σ.2) ?_ (vs,ar) some [448,449,450] _ ⟨.refl hlab.1,.refl hlab.2⟩ ?_
  ·rintro ⟨xs,ys⟩ ⟨hux,huy⟩ again
   simp only at hux huy
   have hxl:=hux.len
   have hyl:=huy.len
   have hc1:=hcp xs ys (by omega) (by omega)
   try simp only at hc1
   have hr1:=hra xs ys hxl hyl hux.lab huy.lab (by decide) hbk (by omega) (fun _ _=>by omega)
   refine drvL Tryz.func85 ?_
   simp only [go_sem]
   iterate 2 ((try (refine drvZ Tryz.func85 ?_;simp only [go_sem]));((with_reducible and_intros)<;>try exact sd))
   refine XK.callG [] hc1 ok80 (fun i' x h=>by simp at h) (hbT ()) (fun d h' ⟨_,e⟩=>by subst e;simp) ?_
   rintro _ _ ⟨rfl,rfl⟩ _
   iterate 1 ((try (refine drvZ Tryz.func85 ?_;simp only [go_sem,renCs_I,renCs_stC]));((with_reducible and_intros)<;>try exact sd))
   refine XK.subQ (r := some) (fz := [4162]) (tl := [(2, .c (.ptr 64 0)), (3, DB false), (4, .c (.ptr 512 0)), (5, .c (.ptr 4224 0)), (16, .agg [.msl 4160 1 0 xs.length, .msl 4161 1 0 ys.length, .isl 11 (St1.cellsL bd)]), (18, .c (.isl 11 (St1.cellsL bd)))])
    (hl:=[(64,some [.v (.slice none 0 0),.v (.slice none 0 0),.v (.slice none 0 0)]),(512,some (Pg.cells ⟨xs,ys,bd⟩)),(4224,some [.msl 4160 1 0 xs.length,.msl 4161 1 0 ys.length,.isl 11 (St1.cellsL bd)]),(4160,some (xs.map I64)),(4161,some (ys.map I64))]) ?_ ?_
   ·simp only [go_sem,TmOK,DM,DMs,CM,CMs,forall_eq,exists_eq_left,Mq,HpOK,LowOK]
    simp [CMs_I,flat_I',flat_I,hfl,hcl,kf]
    exact ⟨hbz,hbkf⟩
   refine XK.callG [4160,4161] hr1 ok124 (hhpG (by simp [HH,upd,hOf,renCs_I])) (hbT ()) (fun d h' ⟨_,_,_,_,_,e⟩=>by subst e;simp) ?_
   rintro _ _ ⟨xs2,ys2,rfl,u1,u2,rfl⟩ _
   have hxl2:=u1.len
   have hyl2:=u2.len
   refine XK.subQ (r:=some) (fz:=[4160,4161]) (tl:=[(2,.c (.ptr 64 0)),(3,DB false),(4,.c (.ptr 512 0)),(5,.c (.ptr 4224 0))]) (hl:=[(64,some [.v (.slice none 0 0),.v (.slice none 0 0),.v (.slice none 0 0)]),(512,some (Pg.cells ⟨xs,ys,bd⟩)),(4224,some (Pg.cells ⟨xs2,ys2,bd⟩))]) ?_ ?_
   ·simp only [go_sem,TmOK,DM,DMs,CM,CMs,forall_eq,exists_eq_left,Mq,HpOK,LowOK]
    simp [CMs_I,flat_I',flat_I,kf,hxl2,hyl2,upd,renCs_I]
   have hs2:=hsa xs2 xs ys2 ys (by omega) (by omega)
   have hr1:=room_le hux.lab u1
   have hr2:=room_le huy.lab u2
   have hcfx:=hcf xs ys (by omega) (by omega)
   generalize hB:(decide (xs2=xs) && decide (ys2=ys))=B at *
   cases B with
   | false =>
    iterate 5 ((try (refine drvZ Tryz.func85 ?_;simp only [go_sem]));((with_reducible and_intros)<;>try exact sd);(try first | refine XK.p hs2 ok125 ?_ | refine XK.gp hs2 ok125 ?_))
    refine again (xs2,ys2) some [] _ ⟨hux.trans u1,huy.trans u2⟩ ?_ ?_
    ·show roomL xs2+roomL ys2<roomL xs+roomL ys
     by_cases e1:xs=xs2
     ·by_cases e2:ys=ys2
      ·subst e1 e2;simp at hB
      ·have:=hr2.2 e2;omega
     ·have:=hr1.2 e1;omega
    ·simp only [go_sem,TmOK,DM,DMs,CM,CMs,forall_eq,exists_eq_left,Mq,HpOK,LowOK]
     simp
   | true =>
    generalize hc:chkR flowR ⟨xs,ys,bd⟩=x at *
    obtain ⟨code,at_⟩:=x
    by_cases hz:code=0
    ·subst hz
     iterate 9 ((try (refine drvZ Tryz.func85 ?_;simp only [go_sem,bne_self_eq_false]));((with_reducible and_intros)<;>try exact sd);(try first | refine XK.p hs2 ok125 ?_ | refine XK.gp hs2 ok125 ?_ | refine XK.p hcfx ok95 ?_ | refine XK.gp hcfx ok95 ?_))
     refine RetOb.ofQ (fun _=>none) [] (.tup [.agg (Pg.cells ⟨xs,ys,bd⟩),DB true]) [] ?_ (by rw [← hR];exact ⟨⟨xs,ys,bd⟩,true,rfl,rfl,fun _=>⟨hux,huy,rfl,hq⟩⟩) (by simp)
     simp [enumL,DM,DMs,CM,CMs,HpOK,LowOK,Pg.cells,isI]
    ·have g1:(code=0)=False:=eq_false hz
     have g2:(code != 0)=true:=by simp [hz]
     iterate 9 ((try (refine drvZ Tryz.func85 ?_;simp only [go_sem,g1,g2]));((with_reducible and_intros)<;>try exact sd);(try first | refine XK.p hs2 ok125 ?_ | refine XK.gp hs2 ok125 ?_ | refine XK.p hcfx ok95 ?_ | refine XK.gp hcfx ok95 ?_))
     refine RetOb.ofQ (fun _=>none) [] (.tup [.agg (Pg.cells ⟨[],[],[]⟩),DB false]) [] ?_ (by rw [← hR];exact ⟨_,false,rfl,rfl,fun h=>by cases h⟩) (by simp)
     simp [enumL,DM,DMs,CM,CMs,HpOK,LowOK,Pg.cells,isI,St1.cellsL]
  ·simp only [go_sem,TmOK,DM,DMs,CM,CMs,forall_eq,exists_eq_left,Mq,HpOK,LowOK]
   simp [CMs_I,flat_I',flat_I,hfl,hcl,kf]
   try exact ⟨hbz,hbkf⟩
end Go.Proofs.YtmjkgjkkpaephaaGreat.CtD
