/- Contracts of functions of the program, one behind the other, as plain data: what each call returns and which blocks it leaves. -/
import Derived.Test.YtbknljofedfpjaaGreatYFacts
import Derived.Test.YtbknljofedfpjaaGreatYAk
import Derived.Test.YtbknljofedfpjaaGreatYAl
import Derived.Test.YtbknljofedfpjaaGreatYAm
import Derived.Test.YtbknljofedfpjaaGreatYAn
set_option linter.unusedVariables false
set_option linter.unusedSimpArgs false
set_option linter.unusedSectionVars false
set_option maxHeartbeats 16000000
set_option maxRecDepth 100000
namespace Go.Proofs.YtbknljofedfpjaaGreat.CtR
open Go Go.CT CtF
variable [Yn]
theorem runImpl (p : Pg) : ∀ (d : Nat) (m : Mm) (l : List St1) (tr : List Ev), MemFits p m → (∀ s ∈ l, stmtOK p d s = true) → tr.length + wt d * lsize d l ≤ 1073741824 → DC Tryz.prog 54 [.c (.ptr 0 0), .c (.isl 11 (St1.cellsL l))]
 [some [.msl 2 1 0 p.vars.length,.msl 3 1 0 p.arrays.length,.msl 1 2 0 tr.length],some (trC tr),some (m.vals.map I64),some (hdr 4 5 p.arrays.length),some (blk0 m.arrays),some (blk1 m.arrays)] (fun r h=>r = .tup []∧h=stP' p (runL d m l).1 (tr++(runL d m l).2))
 | 0,m,l,tr,hm,hok,h=>runIOf p 0 (fun d' e=>by omega) m l tr hm hok h
 | d+1,m,l,tr,hm,hok,h=>runIOf p (d+1) (fun d' e=>by
  obtain rfl:d=d':=by omega
  exact runImpl p d) m l tr hm hok h
theorem memFits_of {p:Pg} {m:Mm} (h:(progOK p && memOK p.vars p.arrays m)=true):MemFits p m:=by
 simp only [progOK,memOK,headsOK,vals01,arrOK,Bool.and_eq_true,decide_eq_true_eq,List.all_eq_true] at h
 obtain ⟨⟨⟨⟨⟨⟨⟨h1,h2⟩,h3⟩,_⟩,_⟩,_⟩,_⟩,⟨⟨g1,g2⟩,g3⟩,g4⟩:=h
 exact ⟨by omega,by omega,by omega,by omega,g3,fun a ha=>⟨by have:=(g4 a ha).1;omega,(g4 a ha).2⟩⟩
theorem body_of {p:Pg} (h:progOK p=true):(∀ s ∈ p.body,stmtOK p 5 s=true)∧lsize 5 p.body≤60:=by
 simp only [progOK,Bool.and_eq_true,decide_eq_true_eq,List.all_eq_true] at h
 exact ⟨h.1.2,by omega⟩
theorem wt5:wt 5=4860:=by decide
def runP (p:Pg) (m:Mm):Mm × List Ev × Bool:=if progOK p && memOK p.vars p.arrays m then ((runL 5 m p.body).1,(runL 5 m p.body).2,true) else (⟨[],[]⟩,[],false)
def trD (tr:List Ev):C := .isl 2 (tr.map Ev.cells)
theorem RetOb.step {m : Nat} {R : D → List (Option (List C)) → Prop} {d : D} {hp : Hp} (r : Nat → Option Nat) (fz : List Nat) (d' : D) (hl : List (Nat × Option (List C)))
 (hM:DM (hOf hl) r hp fz d' d∧HpOK (hOf hl) r hp fz hl∧LowOK r (hOf hl) m∧((hl.filterMap fun p=>p.2.map fun _=>p.1).filterMap r).Nodup) (hn:RetOb m R d' (hOf hl)):RetOb m R d hp:=fun I w s v H hv=>by
 have h:Mq m r fz [] hl ⟨fun _=>none,hp,0⟩:=⟨trivial,hM.2.1,hM.2.2.1,hM.2.2.2⟩
 obtain ⟨H',E'⟩:=h.subH.sim H
 obtain ⟨I',s',d2,h2,g1,g2,g3,g4,g5⟩:=hn _ w _ v H' (DM.rd H d' d hM.1 hv)
 exact ⟨I',s',d2,h2,g1,g2,g3,E'.trans g4,g5⟩
theorem RetOb.run {R : D → List (Option (List C)) → Prop} {p : Pg} {m : Mm} {tr : List Ev} {ok : Bool} {hp : Hp} {k0 k1 k2 k3 kt n : Nat} {cs : List C} (hm : MemFits p m) (hR : R (.tup [.agg m.cells, .c (trD tr), DB ok]) [])
 (h0:hp k0=some (some (m.vals.map I64))) (h1:hp k1=some (some (hdr k2 k3 p.arrays.length))) (h2:hp k2=some (some (blk0 m.arrays))) (h3:hp k3=some (some (blk1 m.arrays))) (ht:hp kt=some (some cs)) (hcs:cs=trC tr) (hn:n=tr.length)
 (hne:k0 ≠ k1∧k0 ≠ k2∧k0 ≠ k3∧k1 ≠ k2∧k1 ≠ k3∧k2 ≠ k3∧kt ≠ k0∧kt ≠ k1∧kt ≠ k2∧kt ≠ k3):RetOb 0 R (.tup [.agg [.msl k0 1 0 p.vars.length,.msl k1 1 0 p.arrays.length],.c (.msl kt 2 0 n),DB ok]) hp:=by
 subst hcs hn
 obtain ⟨va,arr⟩:=m
 have hnv:va.length=p.vars.length:=hm.nv
 have hna:arr.length=p.arrays.length:=hm.na
 have hna2:=hm.na2
 have h4:∀ a ∈ arr,a.length=4:=fun a ha=>(hm.arr a ha).1
 obtain ⟨n01,n02,n03,n12,n13,n23,nt0,nt1,nt2,nt3⟩:=hne
 rw [← hnv,← hna]
 rw [← hna] at h1 hna2
 refine RetOb.step (fun j=>if j=0 then some k0 else if j=1 then some k1 else if j=2 then some kt else none) [k2,k3] (.tup [.agg [.msl 0 1 0 va.length,.msl 1 1 0 arr.length],.c (.msl 2 2 0 tr.length),DB ok]) [(0,some (va.map I64)),(1,some (arr.map isI)),(2,some (trC tr))] ?_ ?_
 ·have e3:∀ a:List Int,(a.map fun n=>[C.v (.int .i64 n)]).flatten=a.map I64:=fun a=>flat1 _ a
  match arr,hna2,h4,h1,h2,h3 with
  | [],_,h4,h1,h2,h3=>simp [DM,DMs,CM,CMs,HpOK,LowOK,hOf,upd,h0,ht,CMs_I,CMs_tr,h1,hdr,n01,n02,n03,n12,n13,n23,nt0,nt1,nt2,nt3,Ne.symm n01,Ne.symm nt0,Ne.symm nt1,Ne.symm n23]
  | [a],_,h4,h1,h2,h3 =>
   have ha:=h4 a (by simp)
   simp [DM,DMs,CM,CMs,HpOK,LowOK,hOf,upd,h0,ht,CMs_I,CMs_tr,h1,h2,hdr,n01,n02,n03,n12,n13,n23,nt0,nt1,nt2,nt3,Ne.symm n01,Ne.symm nt0,Ne.symm nt1,Ne.symm n23,e3,isI,ha,blk0,kf]
  | [a,b],_,h4,h1,h2,h3 =>
   have ha:=h4 a (by simp)
   have hb:=h4 b (by simp)
   simp [DM,DMs,CM,CMs,HpOK,LowOK,hOf,upd,h0,ht,CMs_I,CMs_tr,h1,h2,h3,hdr,n01,n02,n03,n12,n13,n23,nt0,nt1,nt2,nt3,Ne.symm n01,Ne.symm nt0,Ne.symm nt1,Ne.symm n23,e3,isI,ha,hb,blk0,blk1,kf]
 ·refine RetOb.ofQ (fun _=>none) [0,1,2] _ [] ⟨?_,trivial,trivial,by simp [enumL]⟩ hR (Nat.zero_le _)
  have e4:∀ l:List (List Int),(l.map fun a=>[C.isl 1 (a.map fun n=>[I64 n])]).flatten=l.map isI:=fun l=>flat1 _ l
  have e5:(tr.map Ev.cells).flatten=trC tr:=rfl
  simp [DM,DMs,CM,CMs,hOf,upd,Mm.cells,isI,trD,flat_I,kf,e5]
  exact ⟨(flat1 isI arr).symm,fun a _=>rfl,fun a _ c hc=>by
   simp only [Ev.cells,List.mem_cons,List.not_mem_nil,or_false] at hc
   rcases hc with rfl | rfl<;>rfl⟩
theorem runP_false {p:Pg} {m:Mm} (h:(progOK p && memOK p.vars p.arrays m)=false):runP p m=(⟨[],[]⟩,[],false):=by unfold runP;rw [h];rfl
theorem runP_true {p:Pg} {m:Mm} (h:(progOK p && memOK p.vars p.arrays m)=true):runP p m=((runL 5 m p.body).1,(runL 5 m p.body).2,true):=by unfold runP;rw [h];rfl
theorem RetOb.noRun {R:D→List (Option (List C))→Prop} {hp:Hp} {c:C} (hR:R (.tup [.agg (Mm.cells ⟨[],[]⟩),.c (trD []),DB false]) []) (hc:c = .v (.slice none 0 0)∨∃ k,c = .msl k 2 0 0∧hp k=some (some [])):RetOb 0 R (.tup [.agg [.v (.slice none 0 0),.v (.slice none 0 0)],.c c,DB false]) hp:=by
 rcases hc with rfl | ⟨k,rfl,hk⟩
 ·refine RetOb.ofQ (fun _=>none) [] _ [] ⟨?_,trivial,trivial,by simp [enumL]⟩ hR (Nat.zero_le _)
  simp [DM,DMs,CM,CMs,Mm.cells,isI,trD]
 ·refine RetOb.ofQ (fun _=>none) [k] _ [] ⟨?_,trivial,trivial,by simp [enumL]⟩ hR (Nat.zero_le _)
  simp [DM,DMs,CM,CMs,Mm.cells,isI,trD,hk]
theorem runProgI (p:Pg) (m:Mm) (hl:p.vars.length≤mx) (hl2:p.arrays.length≤mx):DC Tryz.prog 13 [.agg p.cells,.agg m.cells] [] (fun r h=>r = .tup [.agg (runP p m).1.cells,.c (trD (runP p m).2.1),DB (runP p m).2.2]∧h=[]):=by
 have hv:=memoryValidI p m hl hl2
 generalize hR:(fun (r:D) (h:List (Option (List C)))=>r = .tup [.agg (runP p m).1.cells,.c (trD (runP p m).2.1),DB (runP p m).2.2]∧h=[])=R
 have hmf:=@memFits_of _ p m
 have hbo:=@body_of _ p
 cases hq:(progOK p && memOK p.vars p.arrays m) with
 | false =>
  rw [hq] at hv
  have hr:=runP_false hq
  obtain ⟨vs,ar,bd⟩:=p
  obtain ⟨va,arr⟩:=m
  refine dcZ Tryz.func13 ?_
  simp only [go_sem,Mm.cells]
  iterate 2 (try (refine drvZ Tryz.func13 ?_;simp only [go_sem,Mm.cells]))
  refine XK.plain hv ok52 ?_ (hbT ())
  iterate 3 (try (refine drvZ Tryz.func13 ?_;simp only [go_sem]))
  refine RetOb.noRun ?_ (.inl rfl)
  subst hR
  rw [hr]
  exact ⟨rfl,rfl⟩
 | true =>
  rw [hq] at hv
  have hr:=runP_true hq
  have hm:=hmf hq
  have hpo:progOK p=true:=by simp only [Bool.and_eq_true] at hq;exact hq.1
  have hbd:=hbo hpo
  have hcp:=own m (by have:=hm.nv;have:=hm.nv12;omega) (by have:=hm.na;have:=hm.na2;omega) (fun a ha=>(hm.arr a ha).1)
  unfold memB at hcp
  rw [hm.nv,hm.na] at hcp
  have hrn:=runImpl p 5 m p.body [] hm hbd.1 (by rw [wt5];simp only [List.length_nil];omega)
  have hfin:=(runL_ok hm hbd.1).1
  obtain ⟨vs,ar,bd⟩:=p
  obtain ⟨va,arr⟩:=m
  refine dcZ Tryz.func13 ?_
  simp only [go_sem,Mm.cells]
  iterate 2 (try (refine drvZ Tryz.func13 ?_;simp only [go_sem,Mm.cells]))
  refine XK.plain hv ok52 ?_ (hbT ())
  iterate 3 (try (refine drvZ Tryz.func13 ?_;simp only [go_sem]))
  refine XK.callG [] hcp ok53 (fun i' x h=>by simp at h) (hbT ()) (fun d h' ⟨_,e⟩=>by subst e;simp) ?_
  rintro _ _ ⟨rfl,rfl⟩ _
  iterate 3 (try (refine drvZ Tryz.func13 ?_;simp only [go_sem,renCs_I,renCs_hdr,renCs_b0,renCs_b1,renCs_tr]))
  refine XK.subQ (r := fun j => if j = 0 then some 768 else if j = 1 then none else if j = 2 then some 640 else if j = 3 then some 641 else if j = 4 then some 642 else if j = 5 then some 643 else some 128) (fz := [])
   (tl:=[(4,.c (.ptr 6 0)),(7,.c (.ptr 0 0)),(17,.c (.ptr 0 0)),(19,.c (.isl 11 (St1.cellsL bd)))])
   (hl:=[(0,some [.msl 2 1 0 vs.length,.msl 3 1 0 ar.length,.msl 1 2 0 0]),(1,some []),(2,some (va.map I64)),(3,some (hdr 4 5 ar.length)),(4,some (blk0 arr)),(5,some (blk1 arr)),(6,some [.v (.slice none 0 0),.v (.slice none 0 0)])]) ?_ ?_
  ·simp [Mq,TmOK,DM,CM,CMs,HpOK,LowOK,hOf,upd,CMs_I,CMs_hdr,CMs_b0,CMs_b1]
  refine XK.callG [0,1,2,3,4,5] hrn ok54 (hhp6 (by simp [hOf,upd,renCs,renC,rk0]) (by simp [hOf,upd,renCs_tr,renCs,renC,trC]) (by simp [hOf,upd,renCs_I]) (by simp [hOf,upd,renCs_hdr,rk0]) (by simp [hOf,upd,renCs_b0]) (by simp [hOf,upd,renCs_b1])) (hbT ()) (fun d h' ⟨_,e⟩=>by subst e;simp [stP']) ?_
  rintro _ _ ⟨rfl,rfl⟩ _
  unfold stP'
  iterate 3 (try (refine drvZ Tryz.func13 ?_;simp only [go_sem,renCs_I,renCs_hdr,renCs_b0,renCs_b1,renCs_tr]))
  (with_reducible and_intros)<;>try exact sd
  iterate 3 (try (refine drvZ Tryz.func13 ?_;simp only [go_sem,renCs_I,renCs_hdr,renCs_b0,renCs_b1,renCs_tr]))
  (with_reducible and_intros)<;>try exact sd
  refine RetOb.run hfin ?_ rfl rfl rfl rfl rfl rfl rfl (by decide)
  subst hR
  rw [hr]
  exact ⟨rfl,rfl⟩
theorem equalI (xs ys:List Int) (hl:xs.length≤mx):DC Tryz.prog 45 [ints xs,ints ys] [] (fun r h=>r=DB (decide (xs=ys))∧h=[]):=by
 have hmx:=mx_eq
 have ret:∀ (b:Bool) (hp:Hp),b=decide (xs=ys)→RetOb 0 (fun r h=>r=DB (decide (xs=ys))∧h=[]) (DB b) hp:=fun b hp h=>RetOb.plain (d:=DB _) ⟨by rw [h],rfl⟩ rfl
 by_cases hlen:xs.length=ys.length
 ·have hb:((xs.length:Int) != ys.length)=false:=by simp [hlen]
  have he:((xs.length:Int)=ys.length)=True:=eq_true (by omega)
  refine dc_of_go Tryz.func45 rfl (by simp) ?_
  refine drv_sound (n:=100) (rs:=_) Tryz.func45 mo rfl none _ _ ?_
  simp only [go_sem,ints,hb,he]
  refine Go.loopL (fun i:Nat=>[(0,ints xs),(1,ints ys),(12,DI .i64 xs.length),(13,DI .i64 i)]) (fun _=>[]) 1024 (fun i=>i≤xs.length∧decide (xs=ys)=decide (xs.drop i=ys.drop i)) (fun i=>xs.length - i) ?_ 0 some [] _ ⟨Nat.zero_le _,rfl⟩ ?_
  ·intro i hi again
   refine drv_sound (n:=100) (rs:=_) Tryz.func45 mo rfl none _ _ ?_
   rcases Nat.lt_or_ge i xs.length with hlt | hge
   ·obtain ⟨x,hx⟩:∃ x,xs[i]? = some x:=⟨xs[i],by simp [hlt]⟩
    obtain ⟨y,hy⟩:∃ y,ys[i]? = some y:=⟨ys[i]'(by omega),by simp⟩
    have hI:=hi.2
    obtain ⟨_,ex⟩:=List.getElem?_eq_some_iff.1 hx
    obtain ⟨hyl,ey⟩:=List.getElem?_eq_some_iff.1 hy
    rw [List.drop_eq_getElem_cons hlt,List.drop_eq_getElem_cons hyl,ex,ey] at hI
    simp only [go_sem,ints,hx,hy,hlt]
    (with_reducible and_intros)<;>try exact sd
    ·intro hne;exact ret _ _ (by rw [hI];simp [hne])
    ·intro heq;exact ⟨by simp only [InK];omega,again (i+1) some [] _ ⟨by omega,by rw [hI];simp [heq]⟩ (by omega) (Mt.slots (by
      simp only [go_sem,TmOK,DM,DMs,CM,CMs,forall_eq,exists_eq_left,ints]))⟩
   ·have hn:¬ i<xs.length:=by omega
    simp only [go_sem,ints,hn]
    refine ret _ _ ?_
    rw [hi.2,List.drop_of_length_le hge,List.drop_of_length_le (by omega)];rfl
  ·refine Mt.slots ?_
   simp only [go_sem,TmOK,DM,DMs,CM,CMs,forall_eq,exists_eq_left,ints]
 ·have hb:((xs.length:Int) != ys.length)=true:=by simp;omega
  have he:((xs.length:Int)=ys.length)=False:=eq_false (by omega)
  refine dc_of_go Tryz.func45 rfl (by simp) ?_
  refine drv_sound (n:=100) (rs:=_) Tryz.func45 mo rfl none _ _ ?_
  simp only [go_sem,ints,hb,he]
  refine ret _ _ ?_
  symm;rw [decide_eq_false_iff_not];intro h;exact hlen (by rw [h])
theorem Ev.eq_iff (a b:Ev):a=b ↔ a.kind=b.kind∧a.value=b.value:=by cases a;cases b;simp
def trSame (xs ys:List Ev):Bool:=xs.length == ys.length && (xs.zip ys).all fun q=>q.1.kind == q.2.kind && q.1.value == q.2.value
theorem trSame_iff : ∀ xs ys : List Ev, trSame xs ys = true ↔ xs = ys
 | [],[]=>by simp [trSame]
 | [],b :: r=>by simp [trSame]
 | a :: r,[]=>by simp [trSame]
 | a :: r,b :: r'=>by
  have ih:=trSame_iff r r'
  simp only [trSame,List.length_cons,List.zip_cons_cons,List.all_cons,Bool.and_eq_true,beq_iff_eq] at ih ⊢
  rw [List.cons.injEq,Ev.eq_iff,← ih]
  constructor
  ·rintro ⟨h1,⟨h2,h3⟩,h4⟩;exact ⟨⟨h2,h3⟩,by omega,h4⟩
  ·rintro ⟨⟨h2,h3⟩,h1,h4⟩;exact ⟨by omega,⟨h2,h3⟩,h4⟩
theorem equalEv (xs ys:List Ev) (hl:xs.length≤mx):DC Tryz.prog 60 [.c (trD xs),.c (trD ys)] [] (fun r h=>r=DB (trSame xs ys)∧h=[]):=by
 have hmx:=mx_eq
 have ret:∀ (b:Bool) (hp:Hp),b=trSame xs ys→RetOb 0 (fun r h=>r=DB (trSame xs ys)∧h=[]) (DB b) hp:=fun b hp h=>RetOb.plain (d:=DB _) ⟨by rw [h],rfl⟩ rfl
 by_cases hlen:xs.length=ys.length
 ·have hb:((xs.length:Int) != ys.length)=false:=by simp [hlen]
  have he:((xs.length:Int)=ys.length)=True:=eq_true (by omega)
  refine dc_of_go Tryz.func60 rfl (by simp) ?_
  refine drv_sound (n:=100) (rs:=_) Tryz.func60 mo rfl none _ _ ?_
  simp only [go_sem,trD,hb,he]
  refine Go.loopL (fun i:Nat=>[(0,.c (trD xs)),(1,.c (trD ys)),(12,DI .i64 xs.length),(13,DI .i64 i)]) (fun _=>[]) 1024 (fun i=>i≤xs.length∧trSame xs ys=trSame (xs.drop i) (ys.drop i)) (fun i=>xs.length - i) ?_ 0 some [] _ ⟨Nat.zero_le _,rfl⟩ ?_
  ·intro i hi again
   refine drv_sound (n:=100) (rs:=_) Tryz.func60 mo rfl none _ _ ?_
   rcases Nat.lt_or_ge i xs.length with hlt | hge
   ·obtain ⟨⟨k1,v1⟩,hx⟩:∃ x,xs[i]? = some x:=⟨xs[i],by simp [hlt]⟩
    obtain ⟨⟨k2,v2⟩,hy⟩:∃ y,ys[i]? = some y:=⟨ys[i]'(by omega),by simp⟩
    have hI:=hi.2
    obtain ⟨_,ex⟩:=List.getElem?_eq_some_iff.1 hx
    obtain ⟨hyl,ey⟩:=List.getElem?_eq_some_iff.1 hy
    rw [List.drop_eq_getElem_cons hlt,List.drop_eq_getElem_cons hyl,ex,ey] at hI
    have hd:(xs.drop (i+1)).length=(ys.drop (i+1)).length:=by simp;omega
    have hI2:trSame xs ys=((decide (k1=k2) && decide (v1=v2)) && trSame (xs.drop (i+1)) (ys.drop (i+1))):=by
     rw [hI]
     simp only [trSame,List.length_cons,hd,List.zip_cons_cons,List.all_cons,beq_self_eq_true,Bool.true_and]
     rfl
    simp only [go_sem,trD,hx,hy,hlt,Ev.cells,I64]
    (with_reducible and_intros)<;>try exact sd
    ·intro h;exact ret _ _ (by rw [hI2];by_cases h1:k1=k2<;>simp_all)
    ·intro h;exact ⟨by simp only [InK];omega,again (i+1) some [] _ ⟨by omega,by rw [hI2];simp [h.1,h.2]⟩ (by omega) (Mt.slots (by
      simp only [go_sem,TmOK,DM,DMs,CM,CMs,forall_eq,exists_eq_left,trD]))⟩
   ·have hn:¬ i<xs.length:=by omega
    simp only [go_sem,trD,hn]
    refine ret _ _ ?_
    rw [hi.2,List.drop_of_length_le hge,List.drop_of_length_le (by omega)];rfl
  ·refine Mt.slots ?_
   simp only [go_sem,TmOK,DM,DMs,CM,CMs,forall_eq,exists_eq_left,trD]
 ·have hb:((xs.length:Int) != ys.length)=true:=by simp;omega
  have he:((xs.length:Int)=ys.length)=False:=eq_false (by omega)
  refine dc_of_go Tryz.func60 rfl (by simp) ?_
  refine drv_sound (n:=100) (rs:=_) Tryz.func60 mo rfl none _ _ ?_
  simp only [go_sem,trD,hb,he]
  refine ret _ _ ?_
  simp [trSame,hlen]
theorem traceSame (xs ys:List Ev) (hl:xs.length≤mx):DC Tryz.prog 15 [.c (trD xs),.c (trD ys)] [] (fun r h=>r=DB (trSame xs ys)∧h=[]):=by
 refine dc_of_go Tryz.func15 rfl (by simp) ?_
 refine drv_sound (n:=100) (rs:=_) Tryz.func15 mo rfl none _ _ ?_
 simp only [go_sem,trD]
 refine XK.plain (equalEv xs ys hl) ok60 ?_
 refine drv_sound (n:=100) (rs:=_) Tryz.func15 mo rfl (some _) _ _ ?_
 simp only [go_sem,trD]
 exact RetOb.plain (d:=DB _) ⟨rfl,rfl⟩ rfl
theorem equalFunc (xs ys:List (List Int)) (hl:xs.length≤mx) (hx4:∀ a ∈ xs,a.length≤mx):DC Tryz.prog 69 [.c (.isl 1 (xs.map fun a=>[isI a])),.c (.isl 1 (ys.map fun a=>[isI a])),.c (.clo 45 [])] [] (fun r h=>r=DB (decide (xs=ys))∧h=[]):=by
 have hmx:=mx_eq
 have ret:∀ (b:Bool) (hp:Hp),b=decide (xs=ys)→RetOb 0 (fun r h=>r=DB (decide (xs=ys))∧h=[]) (DB b) hp:=fun b hp h=>RetOb.plain (d:=DB _) ⟨by rw [h],rfl⟩ rfl
 by_cases hlen:xs.length=ys.length
 ·have hb:((xs.length:Int) != ys.length)=false:=by simp [hlen]
  have he:((xs.length:Int)=ys.length)=True:=eq_true (by omega)
  refine dc_of_go Tryz.func69 rfl (by simp) ?_
  refine drv_sound (n:=100) (rs:=_) Tryz.func69 mo rfl none _ _ ?_
  simp only [go_sem,isI,I64,hb,he]
  refine Go.loopL (fun i:Nat=>[(1,.c (.isl 1 (ys.map fun a=>[isI a]))),(2,.c (.clo 45 [])),(15,.c (.isl 1 (xs.map fun a=>[isI a]))),(16,DI .i64 xs.length),(17,DI .i64 i)]) (fun _=>[]) 1024 (fun i=>i≤xs.length∧decide (xs=ys)=decide (xs.drop i=ys.drop i)) (fun i=>xs.length - i) ?_ 0 some [] _ ⟨Nat.zero_le _,rfl⟩ ?_
  ·intro i hi again
   refine drv_sound (n:=100) (rs:=_) Tryz.func69 mo rfl none _ _ ?_
   rcases Nat.lt_or_ge i xs.length with hlt | hge
   ·obtain ⟨x,hx⟩:∃ x,xs[i]? = some x:=⟨xs[i],by simp [hlt]⟩
    obtain ⟨y,hy⟩:∃ y,ys[i]? = some y:=⟨ys[i]'(by omega),by simp⟩
    have hI:=hi.2
    obtain ⟨_,ex⟩:=List.getElem?_eq_some_iff.1 hx
    obtain ⟨hyl,ey⟩:=List.getElem?_eq_some_iff.1 hy
    rw [List.drop_eq_getElem_cons hlt,List.drop_eq_getElem_cons hyl,ex,ey] at hI
    simp only [go_sem,isI,I64,hx,hy,hlt]
    (with_reducible and_intros)<;>try exact sd
    refine XK.plain (equalI x y (hx4 x (List.mem_of_getElem? hx))) ok45 ?_
    refine drv_sound (n:=100) (rs:=_) Tryz.func69 mo rfl (some _) _ _ ?_
    simp only [go_sem,isI,I64]
    refine ⟨fun hne=>ret _ _ (by rw [hI];simp [hne]),fun heq=>⟨by simp only [InK];omega,again (i+1) some [] _ ⟨by omega,by rw [hI];simp [heq]⟩ (by omega) (Mt.slots (by
     simp only [go_sem,TmOK,DM,DMs,CM,CMs,forall_eq,exists_eq_left,isI,I64]))⟩⟩
   ·have hn:¬ i<xs.length:=by omega
    simp only [go_sem,isI,I64,hn]
    refine ret _ _ ?_
    rw [hi.2,List.drop_of_length_le hge,List.drop_of_length_le (by omega)];rfl
  ·refine Mt.slots ?_
   simp only [go_sem,TmOK,DM,DMs,CM,CMs,forall_eq,exists_eq_left,isI,I64]
 ·have hb:((xs.length:Int) != ys.length)=true:=by simp;omega
  have he:((xs.length:Int)=ys.length)=False:=eq_false (by omega)
  refine dc_of_go Tryz.func69 rfl (by simp) ?_
  refine drv_sound (n:=100) (rs:=_) Tryz.func69 mo rfl none _ _ ?_
  simp only [go_sem,isI,I64,hb,he]
  refine ret _ _ ?_
  symm;rw [decide_eq_false_iff_not];intro h;exact hlen (by rw [h])
def memSame (a b:Mm):Bool:=decide (a.vals=b.vals) && decide (a.arrays=b.arrays)
theorem memorySame (a b:Mm) (h1:a.vals.length≤mx) (h2:a.arrays.length≤mx) (h3:∀ x ∈ a.arrays,x.length≤mx):DC Tryz.prog 20 [.agg a.cells,.agg b.cells] [] (fun r h=>r=DB (memSame a b)∧h=[]):=by
 obtain ⟨va,arr⟩:=a
 obtain ⟨vb,brr⟩:=b
 refine dc_of_go Tryz.func20 rfl (by simp) ?_
 refine drv_sound (n:=100) (rs:=_) Tryz.func20 mo rfl none _ _ ?_
 simp only [go_sem,Mm.cells,isI,I64]
 refine XK.plain (equalI va vb h1) ok45 ?_ (hbT ())
 refine drv_sound (n:=100) (rs:=_) Tryz.func20 mo rfl (some _) _ _ ?_
 simp only [go_sem,Mm.cells,isI,I64]
 refine XK.gplain 5 true (decide (va=vb)) (fun _=>equalFunc arr brr h2 h3) ok69 ?_ (hbT ()) (hok:=by intro hx;simp [okP,getCall,Call.operands,evT,upd,peelB,DB,DI,cst,one] at hx ⊢;first | done | exact hx | (simp_all;done) | omega)
 refine drv_sound (n:=100) (rs:=_) Tryz.func20 mo rfl (some _) _ _ ?_
 simp only [go_sem,Mm.cells,isI,I64]
 exact RetOb.plain (d:=DB _) ⟨rfl,rfl⟩ rfl
end Go.Proofs.YtbknljofedfpjaaGreat.CtR
namespace Go.Proofs.YtbknljofedfpjaaGreat.CtD
open Go Go.CT CtF
variable [Yn]
def rdr (bs:List Int) (p:Int):List C:=[.isl 1 (bs.map fun n=>[.v (.int .u8 n)]),.v (.int .i64 p)]
theorem l17Open (bs:List Int) (hl:bs.length≤mx):DC Tryz.prog 28 [bytesD bs] [] (fun d h=>d = .c (.ptr 0 0)∧h=[some (rdr (bs.take 2000) 0)]):=by
 have hmx:=mx_eq
 refine dc_of_go Tryz.func28 rfl (by simp) ?_
 refine drv_sound (n:=100) (rs:=_) Tryz.func28 mo rfl none _ _ ?_
 simp (maxSteps:=10000000) (maxDischargeDepth:=300) only [go_sem,bytesD]
 refine ⟨fun h=>⟨by omega,?_⟩,fun h=>?_⟩
 ·refine RetOb.of (fun k=>if k=0 then some 576 else none) [] (.c (.ptr 0 0)) [some (rdr (bs.take 2000) 0)] ?_ ?_ ⟨rfl,rfl⟩ (by simp)
  ·exact subH_one rfl (by simp [rdr,upd_same]) (by simp [rdr,kf])
  ·simp [DM,CM,hpL]
 ·refine RetOb.of (fun k=>if k=0 then some 384 else none) [] (.c (.ptr 0 0)) [some (rdr (bs.take 2000) 0)] ?_ ?_ ⟨rfl,rfl⟩ (by simp)
  ·exact subH_one rfl (by simp [rdr,upd_same,List.take_of_length_le (show bs.length≤2000 by omega)]) (by simp [rdr,kf])
  ·simp [DM,CM,hpL]
theorem pick (bs : List Int) (p : Nat) (n : Int) (hb : Fits .u8 bs) (hl : bs.length ≤ 2000) (h1 : p ≤ 1099511627776) (hn : InK .i64 n) : DC Tryz.prog 71 [.c (.ptr 0 0), DI .i64 n] [some (rdr bs p)]
 (fun d h=>∃ v:Int,d=DI .i64 v∧((n<1∨bs=[])∧v=0∨0≤v∧v<n)∧h=[some (rdr bs ((p+1:Nat):Int))]):=by
 have hmx:=mx_eq
 refine dc_of_go Tryz.func71 rfl (by simp) ?_
 have ret:∀ (v:Int) (hp:Hp),((n<1∨bs=[])∧v=0∨0≤v∧v<n)→hp 0=some (some [.isl 1 (bs.map fun n=>[.v (.int .u8 n)]),.v (.int .i64 (p+1))]) →
  RetOb 1 (fun d h=>∃ v:Int,d = .c (.v (.int .i64 v))∧((n<1∨bs=[])∧v=0∨0≤v∧v<n)∧h=[some [.isl 1 (bs.map fun n=>[.v (.int .u8 n)]),.v (.int .i64 (p+1))]]) (.c (.v (.int .i64 v))) hp:=fun v hp hv hhp=>by
  refine RetOb.of (fun k=>if k=0 then some 0 else none) [] (DI .i64 v) [_] (subH_one' rfl hhp (by simp [kf]) (by simp)) (by simp [DM,CM,DI]) ⟨v,rfl,hv,rfl⟩ (by simp)
 refine drv_sound (n:=37) (rs:=_) Tryz.func71 mo rfl none _ _ ?_
 simp (maxSteps:=10000000) (maxDischargeDepth:=300) only [go_sem,rdr,List.length_eq_zero_iff,Int.natCast_eq_zero]
 refine ⟨by simp only [InK];omega,fun h=>ret _ _ (.inl ⟨h,rfl⟩) (upd_same _ _ _),fun h=>?_⟩
 have hbl:0<bs.length:=List.length_pos_iff.2 h.2
 have hby:∀ {j:Nat} {x:Int},bs[j]? = some x→0≤x∧x≤255:=fun {j x} hx=>by
  obtain ⟨hlt,e⟩:=List.getElem?_eq_some_iff.1 hx
  exact hb x (e ▸ List.getElem_mem hlt)
 have hrem:∀ a:Int,0≤a→0≤a % n∧a % n<n:=fun a _=>⟨Int.emod_nonneg _ (by omega),Int.emod_lt_of_pos _ (by omega)⟩
 refine drv_sound (n:=100) (rs:=_) Tryz.func71 mo rfl (some _) _ _ ?_
 rcases Nat.lt_or_ge p bs.length with hlt | hge
 ·obtain ⟨x,hx⟩:∃ x,bs[p]? = some x:=⟨bs[p],by simp⟩
  have hxb:=hby hx
  have hnlt:¬ bs.length≤p:=by omega
  simp (maxSteps:=10000000) (maxDischargeDepth:=300) only [go_sem,hx,hlt,hnlt]
  exact ⟨by simp only [InK];omega,by simp only [InK];omega,by omega,ret _ _ (.inr (hrem x hxb.1)) (upd_same _ _ _)⟩
 ·have hnlt:¬ p<bs.length:=by omega
  have hm1:((p:Int) % bs.length).toNat<bs.length:=by
   have:=Int.emod_lt_of_pos (p:Int) (b:=bs.length) (by omega)
   have:=Int.emod_nonneg (p:Int) (b:=bs.length) (by omega)
   omega
  have hm2:(((p:Int) * 7+3) % bs.length).toNat<bs.length:=by
   have:=Int.emod_lt_of_pos ((p:Int) * 7+3) (b:=bs.length) (by omega)
   have:=Int.emod_nonneg ((p:Int) * 7+3) (b:=bs.length) (by omega)
   omega
  obtain ⟨x,hx⟩:∃ x,bs[((p:Int) % bs.length).toNat]? = some x:=⟨_,List.getElem?_eq_getElem hm1⟩
  obtain ⟨y,hy⟩:∃ x,bs[(((p:Int) * 7+3) % bs.length).toNat]? = some x:=⟨_,List.getElem?_eq_getElem hm2⟩
  have hxb:=hby hx
  have hyb:=hby hy
  simp (maxSteps:=10000000) (maxDischargeDepth:=300) only [go_sem,hx,hy,hge,hnlt]
  have hq0:0≤(p:Int) / bs.length:=Int.ediv_nonneg (by omega) (by omega)
  have hq1:(p:Int) / bs.length≤p:=Int.ediv_le_self _ (by omega)
  generalize (p:Int) / bs.length=q at *
  repeat' with_reducible apply And.intro
  all_goals first | kernel_rfl | (simp only [InK];omega) | omega | exact Int.emod_nonneg _ (by omega) | exact ret _ _ (.inr (hrem _ (Int.natCast_nonneg _))) (upd_same _ _ _)
theorem num (bs : List Int) (p : Nat) (xs : List Int) (hb : Fits .u8 bs) (hl : bs.length ≤ 2000) (h1 : p ≤ 1099511627776) (hx0 : 0 < xs.length) (hx1 : xs.length ≤ mx) : DC Tryz.prog 73 [.c (.ptr 0 0), ints xs] [some (rdr bs p)]
 (fun d h=>∃ v:Int,d=DI .i64 v∧v ∈ xs∧h=[some (rdr bs ((p+1:Nat):Int))]):=by
 have hmx:=mx_eq
 refine dc_of_go Tryz.func73 rfl (by simp) ?_
 refine drv_sound (n:=100) (rs:=_) Tryz.func73 mo rfl none _ _ ?_
 simp (maxSteps:=10000000) (maxDischargeDepth:=300) only [go_sem,rdr,ints]
 refine XK.callG [0] (pick bs p xs.length hb hl h1 (by simp only [InK];omega)) ok71 (hhp_one rfl) (fun j hj=>by simp [hpL]) (fun d h' ⟨v,_,_,e⟩=>by subst e;simp) ?_
 rintro d h' ⟨v,rfl,hv,rfl⟩ _
 have hv2:0≤v∧v<xs.length:=by
  rcases hv with ⟨h | h,_⟩ | h
  ·omega
  ·omega
  ·exact h
 refine drv_sound (n:=100) (rs:=_) Tryz.func73 mo rfl (some _) _ _ ?_
 obtain ⟨y,hy⟩:∃ y,xs[v.toNat]? = some y:=⟨xs[v.toNat]'(by omega),List.getElem?_eq_getElem (by omega)⟩
 have hmem:y ∈ xs:=List.mem_of_getElem? hy
 simp (maxSteps:=10000000) (maxDischargeDepth:=300) only [go_sem,rdr,ints,hy]
 exact ⟨by omega,RetOb.keep1 (d:=DI .i64 y) (cs:=rdr bs ((p+1:Nat):Int)) ⟨y,rfl,hmem,rfl⟩ rfl (by simp [rdr,kf]) rfl⟩
end Go.Proofs.YtbknljofedfpjaaGreat.CtD
namespace Go.Proofs.YtbknljofedfpjaaGreat.CtR
end Go.Proofs.YtbknljofedfpjaaGreat.CtR
namespace Go.Proofs.YtbknljofedfpjaaGreat.CtD
open Go Go.CT CtF CtR
variable [Yn]
def rdL (bs:List Int) (n k:Nat) (h:List (Option (List C))):Prop:=∃ n':Nat,n≤n'∧n'≤n+k∧h=[some (rdr bs n')]
theorem rdr_kf (bs:List Int) (n:Int):∀ c ∈ rdr bs n,kf c=true:=by simp [rdr,kf]
theorem l3Value (bs : List Int) (n : Nat) (hb : Fits .u8 bs) (hl : bs.length ≤ 2000) (h1 : n + 4 ≤ 1099511627776) : DC Tryz.prog 87 [.c (.ptr 0 0)] [some (rdr bs n)]
 (fun d h=>∃ v:Int,d=DI .i64 v∧(0≤v∧v≤255)∧rdL bs n 1 h):=by
 have hmx:=mx_eq
 refine dc_of_go Tryz.func87 rfl (by simp) ?_
 refine drv_sound (n:=100) (rs:=_) Tryz.func87 mo rfl none _ _ ?_
 simp only [go_sem,rdr]
 refine ⟨by decide,?_⟩
 refine XK.freeze 4 129 1 9 [[.v (.int .i64 0)],[.v (.int .i64 1)],[.v (.int .i64 2)],[.v (.int .i64 3)],[.v (.int .i64 255)],[.v (.int .i64 128)],[.v (.int .i64 7)],[.v (.int .i64 4)],[.v (.int .i64 100)]] ?_ rfl
 refine XK.callG [0] (num bs n [0,1,2,3,255,128,7,4,100] hb hl (by omega) (by decide) (by decide)) ok73 (hhp_one rfl) (hbT ()) (fun d h' ⟨v,_,_,e⟩=>by subst e;simp) ?_
 rintro d h' ⟨v,rfl,hv,rfl⟩ _
 refine drv_sound (n:=100) (rs:=_) Tryz.func87 mo rfl (some _) _ _ ?_
 simp only [go_sem,rdr]
 refine RetOb.keep1 (d:=DI .i64 v) (cs:=rdr bs ((n+1:Nat):Int)) ⟨v,rfl,?_,n+1,by omega,by omega,rfl⟩ rfl (rdr_kf _ _) rfl
 simp at hv;omega
theorem l1Draw (bs : List Int) (n : Nat) (hb : Fits .u8 bs) (hl : bs.length ≤ 2000) (h1 : n + 4 ≤ 1099511627776) : DC Tryz.prog 149 [.c (.ptr 0 0)] [some (rdr bs n)]
 (fun d h=>∃ v:Int,d=DI .i64 v∧InK .i64 v∧rdL bs n 2 h):=by
 have hmx:=mx_eq
 refine dc_of_go Tryz.func149 rfl (by simp) ?_
 refine drv_sound (n:=100) (rs:=_) Tryz.func149 mo rfl none _ _ ?_
 simp only [go_sem,rdr]
 refine XK.callG [0] (pick bs n 12 hb hl (by omega) (by simp only [InK];omega)) ok71 (hhp_one rfl) (hbT ()) (fun d h' ⟨v,_,_,e⟩=>by subst e;simp) ?_
 rintro d h' ⟨v,rfl,hv,rfl⟩ _
 refine drv_sound (n:=100) (rs:=_) Tryz.func149 mo rfl (some _) _ _ ?_
 simp only [go_sem,rdr]
 refine ⟨fun h0=>?_,fun h0=>?_⟩
 ·refine ⟨by decide,?_⟩
  refine XK.freeze 7 321 1 4 [[.v (.int .i64 (-1))],[.v (.int .i64 4)],[.v (.int .i64 9223372036854775807)],[.v (.int .i64 (-9223372036854775808))]] ?_ rfl
  refine XK.callG [0] (num bs (n+1) [-1,4,9223372036854775807,-9223372036854775808] hb hl (by omega) (by decide) (by decide)) ok73 (hhp_one rfl) (hbT ()) (fun d h' ⟨v,_,_,e⟩=>by subst e;simp) ?_
  rintro d h' ⟨v2,rfl,hv2,rfl⟩ _
  refine drv_sound (n:=100) (rs:=_) Tryz.func149 mo rfl (some _) _ _ ?_
  simp only [go_sem,rdr]
  refine RetOb.keep1 (d:=DI .i64 v2) (cs:=rdr bs ((n+2:Nat):Int)) ⟨v2,rfl,by simp at hv2;simp only [InK];omega,n+2,by omega,by omega,rfl⟩ rfl (rdr_kf _ _) rfl
 ·refine XK.callG [0] (pick bs (n+1) 4 hb hl (by omega) (by simp only [InK];omega)) ok71 (hhp_one rfl) (hbT ()) (fun d h' ⟨v,_,_,e⟩=>by subst e;simp) ?_
  rintro d h' ⟨v2,rfl,hv2,rfl⟩ _
  refine drv_sound (n:=100) (rs:=_) Tryz.func149 mo rfl (some _) _ _ ?_
  simp only [go_sem,rdr]
  refine RetOb.keep1 (d:=DI .i64 v2) (cs:=rdr bs ((n+2:Nat):Int)) ⟨v2,rfl,by simp only [InK];omega,n+2,by omega,by omega,rfl⟩ rfl (rdr_kf _ _) rfl
def AtomE (e:Ex):Prop:=∃ k v,e = .mk k v []∧InK .i64 v∧(k=1∨k=2)
theorem l2DrawAtom (bs : List Int) (n : Nat) (p : Pg) (hb : Fits .u8 bs) (hl : bs.length ≤ 2000) (h1 : n + 4 ≤ 1099511627776) (hp : p.vars.length ≤ mx) : DC Tryz.prog 156 [.c (.ptr 0 0), .agg p.cells] [some (rdr bs n)]
 (fun d h=>∃ e:Ex,d = .agg e.cells∧AtomE e∧rdL bs n 2 h):=by
 have hmx:=mx_eq
 obtain ⟨vs,ar,bd⟩:=p
 have hp:vs.length≤mx:=hp
 refine dc_of_go Tryz.func156 rfl (by simp) ?_
 refine drv_sound (n:=100) (rs:=_) Tryz.func156 mo rfl none _ _ ?_
 simp only [go_sem,rdr]
 refine XK.callG [0] (pick bs n 3 hb hl (by omega) (by simp only [InK];omega)) ok71 (hhp_one rfl) (hbT ()) (fun d h' ⟨v,_,_,e⟩=>by subst e;simp) ?_
 rintro d h' ⟨v,rfl,hv,rfl⟩ _
 refine drv_sound (n:=100) (rs:=_) Tryz.func156 mo rfl (some _) _ _ ?_
 simp only [go_sem,rdr]
 refine ⟨fun h0=>?_,fun h0=>?_⟩
 ·refine ⟨by decide,?_⟩
  refine XK.freeze 9 385 1 7 [[.v (.int .i64 1)],[.v (.int .i64 0)],[.v (.int .i64 2)],[.v (.int .i64 3)],[.v (.int .i64 255)],[.v (.int .i64 7)],[.v (.int .i64 128)]] ?_ rfl
  refine XK.callG [0] (num bs (n+1) [1,0,2,3,255,7,128] hb hl (by omega) (by decide) (by decide)) ok73 (hhp_one rfl) (hbT ()) (fun d h' ⟨v,_,_,e⟩=>by subst e;simp) ?_
  rintro d h' ⟨v2,rfl,hv2,rfl⟩ _
  refine drv_sound (n:=100) (rs:=_) Tryz.func156 mo rfl (some _) _ _ ?_
  simp only [go_sem,rdr]
  simp at hv2
  refine RetOb.ofQ (fun j=>if j=0 then some 0 else none) [] (.agg (Ex.cells (.mk 1 v2 []))) [some (rdr bs ((n+2:Nat):Int))] ?_ ⟨.mk 1 v2 [],rfl,⟨1,v2,rfl,?_,by simp⟩,n+2,by omega,by omega,rfl⟩ (by simp)
  ·simp [enumL,hOf,DM,DMs,CM,CMs,HpOK,LowOK,upd,Ex.cells,Ex.cellsL,rdr]
   try omega
  ·simp only [InK];omega
 ·refine XK.callG [0] (pick bs (n+1) vs.length hb hl (by omega) (by simp only [InK];omega)) ok71 (hhp_one rfl) (hbT ()) (fun d h' ⟨v,_,_,e⟩=>by subst e;simp) ?_
  rintro d h' ⟨v2,rfl,hv2,rfl⟩ _
  refine drv_sound (n:=100) (rs:=_) Tryz.func156 mo rfl (some _) _ _ ?_
  simp only [go_sem,rdr]
  refine RetOb.ofQ (fun j=>if j=0 then some 0 else none) [] (.agg (Ex.cells (.mk 2 v2 []))) [some (rdr bs ((n+2:Nat):Int))] ?_ ⟨.mk 2 v2 [],rfl,⟨2,v2,rfl,?_,by simp⟩,n+2,by omega,by omega,rfl⟩ (by simp)
  ·simp [enumL,hOf,DM,DMs,CM,CMs,HpOK,LowOK,upd,Ex.cells,Ex.cellsL,rdr]
   try omega
  ·simp only [InK];omega
theorem numO (bs : List Int) (p : Nat) (xs : List Int) (hb : Fits .u8 bs) (hl : bs.length ≤ 2000) (h1 : p ≤ 1099511627776) (hx0 : 0 < xs.length) (hx1 : xs.length ≤ mx) : DC Tryz.prog 73 [.c (.ptr 0 0), .c (.msl 1 1 0 xs.length)] [some (rdr bs p), some (xs.map I64)]
 (fun d h=>∃ v:Int,d=DI .i64 v∧v ∈ xs∧h=[some (rdr bs ((p+1:Nat):Int)),some (xs.map I64)]):=by
 have hmx:=mx_eq
 refine dc_of_go Tryz.func73 rfl (by simp) ?_
 refine drv_sound (n:=100) (rs:=_) Tryz.func73 mo rfl none _ _ ?_
 simp only [go_sem,rdr]
 refine XK.callG [0] (pick bs p xs.length hb hl h1 (by simp only [InK];omega)) ok71 (hhp_one rfl) (hbT ()) (fun d h' ⟨v,_,_,e⟩=>by subst e;simp) ?_
 rintro d h' ⟨v,rfl,hv,rfl⟩ _
 have hv2:0≤v∧v<xs.length:=by
  rcases hv with ⟨h | h,_⟩ | h
  ·omega
  ·omega
  ·exact h
 obtain ⟨y,hy⟩:∃ y,xs[v.toNat]? = some y:=⟨xs[v.toNat]'(by omega),List.getElem?_eq_getElem (by omega)⟩
 have hmem:y ∈ xs:=List.mem_of_getElem? hy
 refine drv_sound (n:=100) (rs:=_) Tryz.func73 mo rfl (some _) _ _ ?_
 simp only [go_sem,rdr,hy]
 refine ⟨by omega,?_⟩
 refine RetOb.ofQ (fun j=>if j<2 then some j else none) [] (DI .i64 y) [some (rdr bs ((p+1:Nat):Int)),some (xs.map I64)] ?_ ⟨y,rfl,hmem,rfl⟩ (by simp)
 simp [enumL,hOf,DM,CM,CMs,HpOK,LowOK,upd,rdr,CMs_I,hpL]
inductive SmE : Ex → Prop
 | mk (k v:Int) (ks:List Ex) (h:ks.length≤3) (h2:∀ x ∈ ks,SmE x):SmE (.mk k v ks)
theorem SmE.atom {e:Ex} (h:AtomE e):SmE e:=by
 obtain ⟨k,v,rfl,_,_⟩:=h
 exact .mk k v [] (by simp) (fun x hx=>by simp at hx)
def exC (l:List Ex):List C:=(l.map Ex.cells).flatten
theorem exC_len (l:List Ex):(exC l).length=l.length * 3:=by
 unfold exC
 induction l with
 | nil=>rfl
 | cons a r ih=>simp only [List.map_cons,List.flatten_cons,List.length_append,ih,Ex.cells_len,List.length_cons];omega
theorem ex_kf (e:Ex):∀ c ∈ e.cells,kf c=true:=by cases e;simp [Ex.cells,kf]
theorem exC_kf (l:List Ex):∀ c ∈ exC l,kf c=true:=by
 unfold exC
 intro c hc
 obtain ⟨x,hx,hc⟩:=List.mem_flatten.1 hc
 obtain ⟨e,_,rfl⟩:=List.mem_map.1 hx
 exact ex_kf e c hc
theorem exC_snoc (l:List Ex) (e:Ex):exC (l++[e])=exC l++e.cells:=by simp [exC]
theorem hhp2 {hp:Hp} {r:Nat→Nat} {k0 k1:Nat} {h0 h1:Option (List C)} (e0:hp k0=some (h0.map (renCs r))) (e1:hp k1=some (h1.map (renCs r))):∀ i' x,[h0,h1][i']? = some x→hp ([k0,k1].getD i' 0)=some (x.map (renCs r)):=by
 intro i' x hx
 match i',hx with
 | 0,hx=>simp only [List.getElem?_cons_zero,Option.some.injEq] at hx;subst hx;exact e0
 | 1,hx=>simp only [List.getElem?_cons_succ,List.getElem?_cons_zero,Option.some.injEq] at hx;subst hx;exact e1
 | i' + 2,hx=>simp at hx
def KD (d:Nat):Nat:=4 ^ (d+1)
theorem l2Draw (bs : List Int) (p : Pg) (hb : Fits .u8 bs) (hl : bs.length ≤ 2000) (hp : p.vars.length ≤ mx) (hp2 : p.arrays.length ≤ mx) : ∀ (d n : Nat), d ≤ 8 → n + KD d ≤ 1099511627776 → DC Tryz.prog 172 [.c (.ptr 0 0), .agg p.cells, DI .i64 d] [some (rdr bs n)]
 (fun r h=>∃ e:Ex,r = .agg e.cells∧SmE e∧rdL bs n (KD d) h):=by
 have hmx:=mx_eq
 intro d
 induction d using Nat.strongRecOn with
 | _ d ih =>
  intro n hd hn
  have hat:=fun n h=>l2DrawAtom bs n p hb hl h hp
  obtain ⟨vs,ar,bd⟩:=p
  have hp:vs.length≤mx:=hp
  have hp2:ar.length≤mx:=hp2
  have hk:16≤KD d∨d=0:=by
   rcases d with _ | d
   ·exact .inr rfl
   ·left;unfold KD;rw [Nat.pow_succ,Nat.pow_succ];have:0<4 ^ d:=Nat.pow_pos (by decide);omega
  have hk4:4≤KD d:=by unfold KD;rw [Nat.pow_succ];have:0<4 ^ d:=Nat.pow_pos (by decide);omega
  by_cases hd2:d<2
  ·have h2:((d:Int)<2)=True:=eq_true (by omega)
   refine dcZ Tryz.func172 ?_
   simp only [go_sem,h2,rdr]
   refine XK.gskip 2 false (DI .i64 0) ?_ (hbT ())
   iterate 2 (try (refine drvZ Tryz.func172 ?_;simp only [go_sem,h2,rdr]))
   refine XK.callG [0] (hat n (by omega)) ok156 (hhp_one rfl) (hbT ()) (fun d h' ⟨_,_,_,_,_,_,e⟩=>by subst e;simp) ?_
   rintro _ _ ⟨⟨k,v,ks⟩,rfl,he,n',hn1,hn2,rfl⟩ _
   iterate 2 (try (refine drvZ Tryz.func172 ?_;simp only [go_sem,rdr]))
   exact RetOb.keep1 (d := .agg (Ex.cells (.mk k v ks))) (cs:=rdr bs n') ⟨.mk k v ks,rfl,SmE.atom he,n',hn1,by omega,rfl⟩ rfl (rdr_kf _ _) (ex_kf _)
  ·obtain ⟨d',rfl⟩:∃ d',d=d' + 1:=⟨d - 1,by omega⟩
   have h2:((d':Int)+1<2)=False:=eq_false (by omega)
   have hKK:KD (d' + 1)=4 * KD d':=by unfold KD;rw [Nat.pow_succ];omega
   have hk1:16≤KD d':=by
    obtain ⟨d2,rfl⟩:∃ d2,d'=d2+1:=⟨d' - 1,by omega⟩
    unfold KD;rw [Nat.pow_succ,Nat.pow_succ];have:0<4 ^ d2:=Nat.pow_pos (by decide);omega
   have hk16:16≤KD (d' + 1):=by omega
   refine dcZ Tryz.func172 ?_
   simp only [go_sem,h2,rdr]
   iterate 2 (try (refine drvZ Tryz.func172 ?_;simp only [go_sem,h2,rdr]))
   refine XK.callT 2 false [0] (pick bs n 4 hb hl (by omega) (by simp only [InK];omega)) ok71 (hhp_one rfl) (hbT ()) (fun d h' ⟨v,_,_,e⟩=>by subst e;simp) ?_
   rintro _ _ ⟨v0,rfl,hv0,rfl⟩ _
   by_cases hz:v0=0
   ·subst hz
    iterate 3 (try (refine drvZ Tryz.func172 ?_;simp only [go_sem,h2,rdr]))
    refine XK.callG [0] (hat (n+1) (by omega)) ok156 (hhp_one rfl) (hbT ()) (fun d h' ⟨_,_,_,_,_,_,e⟩=>by subst e;simp) ?_
    rintro _ _ ⟨⟨k,v,ks⟩,rfl,he,n',hn1,hn2,rfl⟩ _
    iterate 2 (try (refine drvZ Tryz.func172 ?_;simp only [go_sem,rdr]))
    exact RetOb.keep1 (d := .agg (Ex.cells (.mk k v ks))) (cs:=rdr bs n') ⟨.mk k v ks,rfl,SmE.atom he,n',by omega,by omega,rfl⟩ rfl (rdr_kf _ _) (ex_kf _)
   ·have hzb:(v0 == 0)=false:=by simp [hz]
    iterate 3 (try (refine drvZ Tryz.func172 ?_;simp only [go_sem,h2,rdr,hz,hzb]))
    refine ⟨by decide,?_⟩
    refine XK.callG [0,641] (numO bs (n+1) [4,10,8,9,3,6,7,5,11] hb hl (by omega) (by decide) (by decide)) ok73 (hhp2 rfl rfl) (hbT ()) (fun d h' ⟨_,_,_,e⟩=>by subst e;simp) ?_
    rintro _ _ ⟨kv,rfl,hkv,rfl⟩ _
    have hat2:=hat (n+2) (by omega)
    by_cases hk3:kv=3
    ·subst hk3
     by_cases ha0:ar.length=0
     ·have e1:((ar.length:Int) == 0)=true:=by simp [ha0]
      have e2:((ar.length:Int)=0)=True:=eq_true (by omega)
      iterate 4 (try (refine drvZ Tryz.func172 ?_;simp only [go_sem,h2,rdr,e1,e2]))
      refine XK.callG [0] (hat (n+2) (by omega)) ok156 (hhp_one rfl) (hbT ()) (fun d h' ⟨_,_,_,_,_,_,e⟩=>by subst e;simp) ?_
      rintro _ _ ⟨⟨k,v,ks⟩,rfl,he,n',hn1,hn2,rfl⟩ _
      iterate 2 (try (refine drvZ Tryz.func172 ?_;simp only [go_sem,rdr]))
      exact RetOb.keep1 (d := .agg (Ex.cells (.mk k v ks))) (cs:=rdr bs n') ⟨.mk k v ks,rfl,SmE.atom he,n',by omega,by omega,rfl⟩ rfl (rdr_kf _ _) (ex_kf _)
     ·have e1:((ar.length:Int) == 0)=false:=by simp only [beq_eq_false_iff_ne];omega
      have e2:((ar.length:Int)=0)=False:=eq_false (by omega)
      iterate 4 (try (refine drvZ Tryz.func172 ?_;simp only [go_sem,h2,rdr,e1,e2]))
      (with_reducible and_intros)<;>try exact sd
      iterate 3 (try (refine drvZ Tryz.func172 ?_;simp only [go_sem,h2,rdr,e1,e2]))
      (with_reducible and_intros)<;>try exact sd
      refine XK.callG [0] (pick bs (n+2) ar.length hb hl (by omega) (by simp only [InK];omega)) ok71 (hhp_one rfl) (hbT ()) (fun d h' ⟨v,_,_,e⟩=>by subst e;simp) ?_ (fun _=>⟨by kernel_rfl,_,_,⟨0,rfl,by omega,rfl⟩,by simp⟩)
      rintro _ _ ⟨v1,rfl,hv1,rfl⟩ _
      iterate 2 (try (refine drvZ Tryz.func172 ?_;simp only [go_sem,h2,rdr]))
      (with_reducible and_intros)<;>try exact sd
      refine XK.callG [0] (hat (n+3) (by omega)) ok156 (hhp_one rfl) (hbT ()) (fun d h' ⟨_,_,_,_,_,_,e⟩=>by subst e;simp) ?_ (fun _=>⟨by kernel_rfl,_,_,⟨.mk 2 0 [],rfl,⟨2,0,rfl,by simp only [InK];omega,.inr rfl⟩,n+3,by omega,by omega,rfl⟩,by simp⟩)
      rintro _ _ ⟨⟨k,v,ks⟩,rfl,he,n',hn1,hn2,rfl⟩ _
      iterate 3 (try (refine drvZ Tryz.func172 ?_;simp only [go_sem,h2,rdr]))
      (with_reducible and_intros)<;>try exact sd
      refine RetOb.ofQ (fun j=>if j=0 then some 0 else none) [1793] (.agg (Ex.cells (.mk 3 v1 [.mk k v ks]))) [some (rdr bs n')] ?_ ⟨.mk 3 v1 [.mk k v ks],rfl,.mk _ _ _ (by simp) (fun x hx=>by simp at hx;subst hx;exact SmE.atom he),n',by omega,by omega,rfl⟩ (by simp)
      simp [enumL,hOf,DM,DMs,CM,CMs,HpOK,LowOK,upd,Ex.cells,Ex.cellsL,rdr,kf]
    ·have e1:(kv == 3)=false:=by simp [hk3]
     iterate 4 (try (refine drvZ Tryz.func172 ?_;simp only [go_sem,h2,rdr,hk3,e1]))
     refine XK.plain (l2Arity kv) ok195 ?_ (hbT ())
     iterate 3 (try (refine drvZ Tryz.func172 ?_;simp only [go_sem,h2,rdr]))
     have har:0≤arity kv∧arity kv≤3:=by
      refine ⟨?_,arity_le kv⟩
      simp at hkv
      unfold arity;repeat' split
      all_goals omega
     refine Go.loopQ (fun x : Nat × Nat × List Ex => [(0, .c (.ptr 0 0)), (2, DI .i64 ((d' + 1 : Nat) : Int)), (4, .c (.ptr 1 0)), (6, .c (.ptr 65 0)), (8, .c (.ptr 66 0)), (9, DI .i64 x.1)])
      (fun x=>[(0,some (rdr bs x.2.1)),(1,some (Pg.cells ⟨vs,ar,bd⟩)),(65,some [I64 0,I64 0,.v (.slice none 0 0)]),(66,some [I64 kv,I64 0,.msl 67 3 0 x.2.2.length]),(67,some (exC x.2.2))])
      4096 (fun x=>x.2.2.length+x.1≤3∧(∀ e ∈ x.2.2,SmE e)∧n≤x.2.1∧x.2.1≤n+2+x.2.2.length * KD d') (fun x=>x.1) ?_ ((arity kv).toNat,n+2,[]) (fun j=>if j=66 then some 1089 else if j=67 then none else some j) [] _ ⟨by simp;omega,by simp,by simp,by simp⟩ ?_
     ·rintro ⟨i,pos,l⟩ ⟨hi1,hi2,hi3,hi4⟩ again
      simp only at hi1 hi2 hi3 hi4
      have hlk:l.length * KD d'≤3 * KD d':=Nat.mul_le_mul_right _ (by omega)
      rcases i with _ | i
      ·refine drvL Tryz.func172 ?_
       simp only [go_sem,h2,rdr]
       iterate 2 (try (refine drvZ Tryz.func172 ?_;simp only [go_sem,h2,rdr]))
       refine RetOb.ofQ (fun j=>if j=0 then some 0 else none) [67] (.agg (Ex.cells (.mk kv 0 l))) [some (rdr bs pos)] ?_ ⟨.mk kv 0 l,rfl,.mk _ _ _ (by omega) hi2,pos,by omega,by omega,rfl⟩ (by simp)
       have g1:(Ex.cellsL l).flatten=exC l:=by rw [Ex.cellsL_eq];rfl
       have g2:∀ x ∈ Ex.cellsL l,x.length=3:=fun x hx=>by rw [Ex.cellsL_eq] at hx;obtain ⟨e,_,rfl⟩:=List.mem_map.1 hx;exact Ex.cells_len e
       have g3:∀ x ∈ Ex.cellsL l,∀ c ∈ x,kf c=true:=fun x hx=>by rw [Ex.cellsL_eq] at hx;obtain ⟨e,_,rfl⟩:=List.mem_map.1 hx;exact ex_kf e
       simp only [enumL,hOf,DM,DMs,CM,CMs,HpOK,LowOK,upd,Ex.cells,rdr,Ex.cellsL_length,g1]
       first | (simp;exact ⟨g2,g3⟩) | (simp [g2];exact g3) | exact ⟨g2,g3⟩
      ·have hip:((0:Int)<(i:Int)+1)=True:=eq_true (by omega)
       have hlk2:l.length * KD d'≤2 * KD d':=Nat.mul_le_mul_right _ (by omega)
       refine drvL Tryz.func172 ?_
       simp only [go_sem,h2,rdr,hip]
       (with_reducible and_intros)<;>try exact sd
       iterate 2 (try (refine drvZ Tryz.func172 ?_;simp only [go_sem,h2,rdr,hip]))
       (with_reducible and_intros)<;>try exact sd
       refine XK.callG [0] (ih d' (by omega) pos (by omega) (by omega)) ok172 (hhp_one rfl) (hbT ()) (fun d h' ⟨_,_,_,_,_,_,e⟩=>by subst e;simp) ?_ (fun _=>⟨by kernel_rfl,_,_,⟨.mk 2 0 [],rfl,.mk _ _ _ (by simp) (fun x hx=>by simp at hx),pos,by omega,by omega,rfl⟩,by simp⟩)
       rintro _ _ ⟨⟨k,v,ks⟩,rfl,he,n',hn1,hn2,rfl⟩ _
       have hel:=exC_len l
       iterate 3 (try (refine drvZ Tryz.func172 ?_;simp only [go_sem,h2,rdr]))
       (with_reducible and_intros)<;>try exact sd
       iterate 2 (try (refine drvZ Tryz.func172 ?_;simp only [go_sem,h2,rdr]))
       (with_reducible and_intros)<;>try exact sd
       refine again (i,n',l++[.mk k v ks]) (fun j=>if j=67 then some 4736 else some j) [] _ ⟨by simp;omega,?_,by simp;omega,?_⟩ (by simp) ?_
       ·intro e he2
        rcases List.mem_append.1 he2 with h | h
        ·exact hi2 e h
        ·rw [List.mem_singleton.1 h];exact he
       ·simp only [List.length_append,List.length_cons,List.length_nil,Nat.add_mul];omega
       ·simp only [go_sem,TmOK,DM,DMs,CM,CMs,forall_eq,exists_eq_left,Mq,HpOK,LowOK,rdr,exC_snoc]
        simp
        exact CMs.kf (kf_app (exC_kf _) (by simp [kf]))
     ·simp only [go_sem,TmOK,DM,DMs,CM,CMs,forall_eq,exists_eq_left,Mq,HpOK,LowOK,rdr]
      simp [exC]
      omega
theorem l2Small (bs : List Int) (n : Nat) (p : Pg) (hb : Fits .u8 bs) (hl : bs.length ≤ 2000) (hp : p.vars.length ≤ mx) (hp2 : p.arrays.length ≤ mx) (hn : n + 2000 ≤ 1099511627776) : DC Tryz.prog 157 [.c (.ptr 0 0), .agg p.cells] [some (rdr bs n)]
 (fun r h=>∃ e:Ex,r = .agg e.cells∧SmE e∧rdL bs n 1100 h):=by
 have hmx:=mx_eq
 have hat:=fun n h=>l2DrawAtom bs n p hb hl h hp
 have hdr:=fun d n h1 h2=>l2Draw bs p hb hl hp hp2 d n h1 h2
 have hrt:=fun e=>l2Right p e hp hp2
 obtain ⟨vs,ar,bd⟩:=p
 refine dcZ Tryz.func157 ?_
 simp only [go_sem,rdr]
 iterate 1 (try (refine drvZ Tryz.func157 ?_;simp only [go_sem,rdr]))
 (with_reducible and_intros)<;>try exact sd
 refine XK.callG [0,321] (numO bs n [2,3,2,1,4] hb hl (by omega) (by decide) (by decide)) ok73 (hhp2 rfl rfl) (hbT ()) (fun d h' ⟨_,_,_,e⟩=>by subst e;simp) ?_ (fun _=>⟨by kernel_rfl,_,_,⟨2,rfl,by simp,rfl⟩,by simp⟩)
 rintro _ _ ⟨dv,rfl,hdv,rfl⟩ _
 obtain ⟨d,rfl,hd1,hd4⟩:∃ d:Nat,dv=(d:Int)∧1≤d∧d≤4:=⟨dv.toNat,by simp at hdv;omega,by simp at hdv;omega,by simp at hdv;omega⟩
 have hK:KD d≤1024:=by unfold KD;exact Nat.le_trans (Nat.pow_le_pow_right (by omega) (show d+1≤5 by omega)) (by decide)
 iterate 1 (try (refine drvZ Tryz.func157 ?_;simp only [go_sem,rdr]))
 (with_reducible and_intros)<;>try exact sd
 refine XK.callG [0] (hdr d (n+1) (by omega) (by omega)) ok172 (hhp_one rfl) (hbT ()) (fun d h' ⟨_,_,_,_,_,_,e⟩=>by subst e;simp) ?_ (fun _=>⟨by kernel_rfl,_,_,⟨.mk 2 0 [],rfl,.mk _ _ _ (by simp) (fun x hx=>by simp at hx),n+1,by omega,by omega,rfl⟩,by simp⟩)
 rintro _ _ ⟨⟨k,v,ks⟩,rfl,he,n',hn1,hn2,rfl⟩ _
 iterate 2 (try (refine drvZ Tryz.func157 ?_;simp only [go_sem,rdr]))
 (with_reducible and_intros)<;>try exact sd
 iterate 1 (try (refine drvZ Tryz.func157 ?_;simp only [go_sem,rdr]))
 refine XK.plain (hrt (.mk k v ks)) ok173 ?_ (hbT ())
 cases hq:right ⟨vs,ar,bd⟩ (.mk k v ks) with
 | true =>
  iterate 2 (try (refine drvZ Tryz.func157 ?_;simp only [go_sem,rdr,hq]))
  exact RetOb.keep1 (d := .agg (Ex.cells (.mk k v ks))) (cs:=rdr bs n') ⟨.mk k v ks,rfl,he,n',by omega,by omega,rfl⟩ rfl (rdr_kf _ _) (ex_kf _)
 | false =>
  iterate 2 (try (refine drvZ Tryz.func157 ?_;simp only [go_sem,rdr,hq]))
  refine XK.callG [0] (hat n' (by omega)) ok156 (hhp_one rfl) (hbT ()) (fun d h' ⟨_,_,_,_,_,_,e⟩=>by subst e;simp) ?_
  rintro _ _ ⟨⟨k2,v2,ks2⟩,rfl,he2,n2,hn3,hn4,rfl⟩ _
  iterate 2 (try (refine drvZ Tryz.func157 ?_;simp only [go_sem,rdr]))
  exact RetOb.keep1 (d := .agg (Ex.cells (.mk k2 v2 ks2))) (cs:=rdr bs n2) ⟨.mk k2 v2 ks2,rfl,SmE.atom he2,n2,by omega,by omega,rfl⟩ rfl (rdr_kf _ _) (ex_kf _)
end Go.Proofs.YtbknljofedfpjaaGreat.CtD
