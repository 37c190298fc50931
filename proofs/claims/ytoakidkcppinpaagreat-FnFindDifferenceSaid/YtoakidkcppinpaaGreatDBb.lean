/- Contracts of functions of the program, one behind the other, as plain data: what each call returns and which blocks it leaves. -/
import Derived.Test.YtoakidkcppinpaaGreatDFacts
import Derived.Test.YtoakidkcppinpaaGreatDAi
import Derived.Test.YtoakidkcppinpaaGreatDAl
import Derived.Test.YtoakidkcppinpaaGreatDAn
import Derived.Test.YtoakidkcppinpaaGreatDAp
import Derived.Test.YtoakidkcppinpaaGreatDAq
import Derived.Test.YtoakidkcppinpaaGreatDAt
import Derived.Test.YtoakidkcppinpaaGreatDAu
import Derived.Test.YtoakidkcppinpaaGreatDAw
import Derived.Test.YtoakidkcppinpaaGreatDAx
import Derived.Test.YtoakidkcppinpaaGreatDAy
import Derived.Test.YtoakidkcppinpaaGreatDBa
import Derived.Test.YtoakidkcppinpaaGreatDAz
import Derived.Test.YtoakidkcppinpaaGreatDAs
set_option linter.unusedVariables false
set_option linter.unusedSimpArgs false
set_option linter.unusedSectionVars false
set_option maxHeartbeats 16000000
set_option maxRecDepth 100000
namespace Go.Proofs.YtoakidkcppinpaaGreat.CtD
open Go Go.CT CtF CtR
variable [Yn]
open CtL (In Cd Mc stepM kindsOf topOf fOK inOK endOK codeOK)
theorem execB (c : Cd) (s : Mc) (T : List Ev) (hT : T.length ≤ 100000) (op a b c' d : Int) (ho : op = 4 ∨ op = 5) (hc1 : c.list.length ≤ 400) (hs : MOK c s) (hx : c.list[s.pc]? = some ⟨op, a, b, c', d⟩) (h : inOK c.vars.length c.arrays.length c.list.length ⟨op, a, b, c', d⟩ = true) :
 DC Tryz.prog 78 [.agg (cdC c),.agg (mcA s),.c (.msl 5 2 0 T.length)] (exB s T) (exeR ⟨op,a,b,c',d⟩ s T):=by
 have hmx:=mx_eq
 have hmv:=fun q=>l6MoveO c ⟨op,a,b,c',d⟩ s hc1 hs h q
 obtain ⟨h1,h2,h3,h4⟩:=hs
 have hbl:=blk_len h4
 have hb0:=fun h x h0 h4'=>blk0_at h4 h (x:=x) h0 h4'
 have hb1:=fun h x h0 h4'=>blk1_at h4 h (x:=x) h0 h4'
 have hnv:=h4.nv
 have hna:=h4.na
 have hn12:=h4.nv12
 have hn2:=h4.na2
 obtain ⟨vs,ar,l⟩:=c
 obtain ⟨pc,rg,m⟩:=s
 simp only [hdC] at h1 h2 h3 hnv hna hn12 hn2 hx hc1 hbl hb0 hb1 hmv
 have hxl:(l.map inX)[pc]? = some (inX ⟨op,a,b,c',d⟩):=by rw [List.getElem?_map,hx];rfl
 have hrr:=fun (i:Int) (h0:0≤i) (h1:i≤13)=>nth_lt (l:=rg) (i:=i) h0 (by omega)
 have hrl:(rg.map I64).length=14:=by rw [List.length_map];exact h2
 have hrg:=fun (i:Int) (h0:0≤i) (h1:i≤13)=>reg_rng h2 h3 (i:=i) h0 h1
 have htl:=trC_len T
 have htl2:(trC T++[.v (.int .i64 5),I64 (pc:Int)]).length=(T.length+1) * 2:=by simp [htl];omega
 have hvl:(m.vals.map I64).length=m.vals.length:=List.length_map _
 have hvv:=fun (i:Int) (h0:0≤i) (h1:i<m.vals.length)=>nth_lt (l:=m.vals) (i:=i) h0 h1
 have ret:∀ (K n:Nat) (pcv:Int) (cs c1 c2 c4 c5:List C) (hp:Hp),hp 0=some (some c1)→hp 1=some (some c2)→hp 2=some (some (hdr 3 4 m.arrays.length))→hp 3=some (some c4)→hp 4=some (some c5)→hp K=some (some cs)→5≤K →
  pcv=((stepM ⟨op,a,b,c',d⟩ ⟨pc,rg,m⟩).1.pc:Int)→c1=(stepM ⟨op,a,b,c',d⟩ ⟨pc,rg,m⟩).1.regs.map I64→c2=(stepM ⟨op,a,b,c',d⟩ ⟨pc,rg,m⟩).1.mem.vals.map I64→(stepM ⟨op,a,b,c',d⟩ ⟨pc,rg,m⟩).1.mem.vals.length=m.vals.length→(stepM ⟨op,a,b,c',d⟩ ⟨pc,rg,m⟩).1.mem.arrays.length=m.arrays.length →
  c4=blk0 (stepM ⟨op,a,b,c',d⟩ ⟨pc,rg,m⟩).1.mem.arrays→c5=blk1 (stepM ⟨op,a,b,c',d⟩ ⟨pc,rg,m⟩).1.mem.arrays→cs=trC (T++(stepM ⟨op,a,b,c',d⟩ ⟨pc,rg,m⟩).2)→n=(T++(stepM ⟨op,a,b,c',d⟩ ⟨pc,rg,m⟩).2).length→RetOb 6 (exeR ⟨op,a,b,c',d⟩ ⟨pc,rg,m⟩ T) (.tup [.agg [.v (.int .i64 pcv),.msl 0 1 0 14,.msl 1 1 0 m.vals.length,.msl 2 1 0 m.arrays.length],.c (.msl K 2 0 n)]) hp:=by
  rintro K n pcv cs c1 c2 c4 c5 hp q1 q2 q3 q4 q5 qk hK e0 rfl rfl f1 f2 rfl rfl rfl rfl
  subst e0
  refine RetOb.ofQ (fun j=>if j=6 then some K else some j) [] (.tup [.agg (mcA (stepM ⟨op,a,b,c',d⟩ ⟨pc,rg,m⟩).1),.c (.msl 6 2 0 (T++(stepM ⟨op,a,b,c',d⟩ ⟨pc,rg,m⟩).2).length)]) (exB' (stepM ⟨op,a,b,c',d⟩ ⟨pc,rg,m⟩).1 (T++(stepM ⟨op,a,b,c',d⟩ ⟨pc,rg,m⟩).2)) ?_ ⟨rfl,rfl⟩ (by simp [exB'])
  simp [exB',mcA,enumL,hOf,DM,DMs,CM,CMs,HpOK,LowOK,upd,CMs_I,CMs_tr,CMs_hdr,CMs_b0,CMs_b1,f1,f2,q1,q2,q3,q4,q5,qk]
  omega
 rcases ho with rfl | rfl
 all_goals
  have hmv:=hmv (by simp [stepM,h2])
  simp only [inOK,kindsOf,fOK,topOf,Bool.and_eq_true,decide_eq_true_eq] at h
  simp at h
  generalize hR:exeR _ _ _=R at ret ⊢
  clear hR
  unfold exB mcA cdC
  simp only
 ·have hv:=hrr c' (by omega) (by omega)
  have hrc:=hrg c' (by omega) (by omega)
  have had:=CtR.l3Address b (nth rg c') (by omega) (hrg _ (by omega) (by omega))
  have hmod:0≤nth rg c' % 4∧nth rg c' % 4<4:=by omega
  have hhl:=hdrgL (k:=3) (k':=4) (n:=m.arrays.length) (by omega)
  have hb01:b=0∨b=1:=by omega
  rcases hb01 with rfl | rfl
  ·have hh:=hdrg0 (k:=3) (k':=4) (n:=m.arrays.length) (by omega)
   have hbb:=hb0 (by omega) _ hmod.1 hmod.2
   have hl4:=hbl.1 (by omega)
   refine dcZ Tryz.func78 ?_
   simp only [go_sem,hxl,inX,hrl,hvl,set_I,hv,hh,hbb,hl4,hhl]
   iterate 20 ((try (refine drvZ Tryz.func78 ?_;simp only [go_sem,hxl,inX,hrl,hvl,set_I,hv,hh,hbb,hl4,hhl]));((with_reducible and_intros)<;>try exact sd);(try first | refine XK.p had ok104 ?_ | refine XK.gp had ok104 ?_))
   refine XK.callG [0] hmv ok106 (hhp_one (by simp [-List.map_set,hpL,upd,renCs_I,stepM,set_I])) (hbT ()) (fun d h' ⟨_,e⟩=>by subst e;simp) ?_
   rintro _ _ ⟨rfl,rfl⟩ _
   iterate 4 ((try (refine drvZ Tryz.func78 ?_;simp only [go_sem,renCs_I]));((with_reducible and_intros)<;>try exact sd))
   exact ret _ _ _ _ _ _ _ _ _ rfl rfl rfl rfl rfl rfl (by decide) rfl (by simp [stepM]) (by simp [stepM]) (by simp [stepM]) (by simp [stepM]) (by simp [stepM]) (by simp [stepM]) (by simp [stepM,trC,Ev.cells]) (by simp [stepM])
  ·have hh:=hdrg1 (k:=3) (k':=4) (n:=m.arrays.length) (by omega)
   have hbb:=hb1 (by omega) _ hmod.1 hmod.2
   have hl4:=hbl.2 (by omega)
   refine dcZ Tryz.func78 ?_
   simp only [go_sem,hxl,inX,hrl,hvl,set_I,hv,hh,hbb,hl4,hhl]
   iterate 20 ((try (refine drvZ Tryz.func78 ?_;simp only [go_sem,hxl,inX,hrl,hvl,set_I,hv,hh,hbb,hl4,hhl]));((with_reducible and_intros)<;>try exact sd);(try first | refine XK.p had ok104 ?_ | refine XK.gp had ok104 ?_))
   refine XK.callG [0] hmv ok106 (hhp_one (by simp [-List.map_set,hpL,upd,renCs_I,stepM,set_I])) (hbT ()) (fun d h' ⟨_,e⟩=>by subst e;simp) ?_
   rintro _ _ ⟨rfl,rfl⟩ _
   iterate 4 ((try (refine drvZ Tryz.func78 ?_;simp only [go_sem,renCs_I]));((with_reducible and_intros)<;>try exact sd))
   exact ret _ _ _ _ _ _ _ _ _ rfl rfl rfl rfl rfl rfl (by decide) rfl (by simp [stepM]) (by simp [stepM]) (by simp [stepM]) (by simp [stepM]) (by simp [stepM]) (by simp [stepM]) (by simp [stepM,trC,Ev.cells]) (by simp [stepM])
 ·have hv:=hrr b (by omega) (by omega)
  have hw:=hrr c' (by omega) (by omega)
  have hrc:=hrg b (by omega) (by omega)
  have had:=CtR.l3Address a (nth rg b) (by omega) (hrg _ (by omega) (by omega))
  have hmod:0≤nth rg b % 4∧nth rg b % 4<4:=by omega
  have hhl:=hdrgL (k:=3) (k':=4) (n:=m.arrays.length) (by omega)
  have hb01:a=0∨a=1:=by omega
  rcases hb01 with rfl | rfl
  ·have hh:=hdrg0 (k:=3) (k':=4) (n:=m.arrays.length) (by omega)
   have hbb:=hb0 (by omega) _ hmod.1 hmod.2
   have hl4:=hbl.1 (by omega)
   refine dcZ Tryz.func78 ?_
   simp only [go_sem,hxl,inX,hrl,hvl,set_I,hv,hw,hh,hbb,hl4,hhl]
   iterate 20 ((try (refine drvZ Tryz.func78 ?_;simp only [go_sem,hxl,inX,hrl,hvl,set_I,hv,hw,hh,hbb,hl4,hhl]));((with_reducible and_intros)<;>try exact sd);(try first | refine XK.p had ok104 ?_ | refine XK.gp had ok104 ?_))
   refine XK.callG [0] hmv ok106 (hhp_one (by simp [-List.map_set,hpL,upd,renCs_I,stepM,set_I])) (hbT ()) (fun d h' ⟨_,e⟩=>by subst e;simp) ?_
   rintro _ _ ⟨rfl,rfl⟩ _
   iterate 4 ((try (refine drvZ Tryz.func78 ?_;simp only [go_sem,renCs_I]));((with_reducible and_intros)<;>try exact sd))
   exact ret _ _ _ _ _ _ _ _ _ rfl rfl rfl rfl rfl rfl (by decide) rfl (by simp [stepM]) (by simp [stepM,setA]) (by simp [stepM,setA]) (by simp [stepM,setA]) (by simp only [stepM];simp;rw [blk0_set0 _ _ _ (by omega)]) (by simp only [stepM];simp;rw [blk1_set0]) (by simp [stepM,trC,Ev.cells]) (by simp [stepM])
  ·have hh:=hdrg1 (k:=3) (k':=4) (n:=m.arrays.length) (by omega)
   have hbb:=hb1 (by omega) _ hmod.1 hmod.2
   have hl4:=hbl.2 (by omega)
   refine dcZ Tryz.func78 ?_
   simp only [go_sem,hxl,inX,hrl,hvl,set_I,hv,hw,hh,hbb,hl4,hhl]
   iterate 20 ((try (refine drvZ Tryz.func78 ?_;simp only [go_sem,hxl,inX,hrl,hvl,set_I,hv,hw,hh,hbb,hl4,hhl]));((with_reducible and_intros)<;>try exact sd);(try first | refine XK.p had ok104 ?_ | refine XK.gp had ok104 ?_))
   refine XK.callG [0] hmv ok106 (hhp_one (by simp [-List.map_set,hpL,upd,renCs_I,stepM,set_I])) (hbT ()) (fun d h' ⟨_,e⟩=>by subst e;simp) ?_
   rintro _ _ ⟨rfl,rfl⟩ _
   iterate 4 ((try (refine drvZ Tryz.func78 ?_;simp only [go_sem,renCs_I]));((with_reducible and_intros)<;>try exact sd))
   exact ret _ _ _ _ _ _ _ _ _ rfl rfl rfl rfl rfl rfl (by decide) rfl (by simp [stepM]) (by simp [stepM,setA]) (by simp [stepM,setA]) (by simp [stepM,setA]) (by simp only [stepM];simp;rw [blk0_set1]) (by simp only [stepM];simp;rw [blk1_set1 _ _ _ (by omega)]) (by simp [stepM,trC,Ev.cells]) (by simp [stepM])
open CtL (In Cd Mc stepM kindsOf topOf fOK inOK endOK codeOK runM atC halt runC)
theorem execS (c : Cd) (s : Mc) (T : List Ev) (hT : T.length ≤ 100000) (x : In) (hc1 : c.list.length ≤ 400) (hs : MOK c s) (hx : c.list[s.pc]? = some x) (h : inOK c.vars.length c.arrays.length c.list.length x = true) :
 DC Tryz.prog 78 [.agg (cdC c),.agg (mcA s),.c (.msl 5 2 0 T.length)] (exB s T) (exeR x s T):=by
 obtain ⟨op,a,b,c',d⟩:=x
 have ho:1≤op∧op≤13:=by
  simp only [inOK,Bool.and_eq_true,decide_eq_true_eq] at h
  exact ⟨h.1.1.1.1.1,h.1.1.1.1.2⟩
 have key:op=1∨op=2∨op=3∨op=4∨op=5∨op=6∨op=7∨op=8∨op=9∨op=10∨op=11∨op=12∨op=13:=by omega
 rcases key with rfl | rfl | rfl | rfl | rfl | rfl | rfl | rfl | rfl | rfl | rfl | rfl | rfl
 ·exact execA c s T hT _ a b c' d (by omega) hc1 hs hx h
 ·exact execA c s T hT _ a b c' d (by omega) hc1 hs hx h
 ·exact execA c s T hT _ a b c' d (by omega) hc1 hs hx h
 ·exact execB c s T hT _ a b c' d (by omega) hc1 hs hx h
 ·exact execB c s T hT _ a b c' d (by omega) hc1 hs hx h
 ·exact execA c s T hT _ a b c' d (by omega) hc1 hs hx h
 ·exact execA c s T hT _ a b c' d (by omega) hc1 hs hx h
 ·exact execA c s T hT _ a b c' d (by omega) hc1 hs hx h
 ·exact execA c s T hT _ a b c' d (by omega) hc1 hs hx h
 ·exact execA c s T hT _ a b c' d (by omega) hc1 hs hx h
 ·exact execA c s T hT _ a b c' d (by omega) hc1 hs hx h
 ·exact execA c s T hT _ a b c' d (by omega) hc1 hs hx h
 ·exact execA c s T hT _ a b c' d (by omega) hc1 hs hx h
theorem l6RunS (c:Cd) (m:Mm) (hc:codeOK c=true) (hm:memOK c.vars c.arrays m=true):DC Tryz.prog 50 [.agg (cdC c),.agg m.cells,DI .i64 20000] [] (fun r h=>r = .tup [.agg (runC c m).1.cells,.c (trD (runC c m).2.1),DB (runC c m).2.2]∧h=[]):=by
 have hmx:=mx_eq
 have hcl:=code_len hc
 have hml:=memOK_len hm
 have hmf:MemFits (hdC c) m:=by
  simp only [memOK,vals01,arrOK,Bool.and_eq_true,decide_eq_true_eq,List.all_eq_true] at hm
  obtain ⟨⟨⟨g1,g2⟩,g3⟩,g4⟩:=hm
  exact ⟨by simp only [hdC];omega,by simp only [hdC];omega,by simp only [hdC];omega,by simp only [hdC];omega,g3,fun a ha=>⟨by have:=(g4 a ha).1;omega,(g4 a ha).2⟩⟩
 have hcp:=l3Copy m (by omega) (by omega) hml.2.2
 have hM:MOK c ⟨0,List.replicate 14 0,m⟩:=⟨by simp;omega,by simp,by simp,hmf⟩
 have hrf:runC c m=match runM c.list 20000 ⟨0,List.replicate 14 0,m⟩ with | some q=>(q.1,q.2,true) | none=>(⟨[],[]⟩,[],false):=by unfold runC;rw [hc,hm];rfl
 generalize hZ:List.replicate 14 (0:Int)=Z at *
 generalize hR:(fun (r:D) (h:List (Option (List C)))=>r = .tup [.agg (runC c m).1.cells,.c (trD (runC c m).2.1),DB (runC c m).2.2]∧h=[])=R
 unfold memB at hcp
 have hstep:=fun s T hT x hs hx h=>execS c s T hT x (by omega) hs hx h
 obtain ⟨vs,ar,l⟩:=c
 obtain ⟨va,arr⟩:=m
 unfold cdC at hstep ⊢
 refine dcZ Tryz.func50 ?_
 simp only [go_sem,Mm.cells]
 iterate 2 ((try (refine drvZ Tryz.func50 ?_;simp only [go_sem,Mm.cells]));((with_reducible and_intros)<;>try exact sd))
 refine XK.callG [] hcp ok46 (fun i' x h=>by simp at h) (hbT ()) (fun d h' ⟨_,e⟩=>by subst e;simp) ?_ (fun _=>⟨by kernel_rfl,_,_,⟨rfl,rfl⟩,by simp⟩)
 rintro _ _ ⟨rfl,rfl⟩ _
 iterate 4 ((try (refine drvZ Tryz.func50 ?_;simp only [go_sem,Mm.cells,renCs_I,renCs_hdr,renCs_b0,renCs_b1]));((with_reducible and_intros)<;>try exact sd))
 have hz14:(List.replicate 14 [C.v (.int .i64 0)]).flatten=Z.map I64:=by rw [← hZ];rfl
 rw [hz14]
 refine Go.loopQ (fun x : Nat × Mc × List Ev => [(2, DI .i64 20000), (3, .c (.ptr 0 0)), (6, .c (.ptr 128 0)), (9, .c (.ptr 576 0)), (10, .c (.msl 704 2 0 x.2.2.length)), (11, DI .i64 x.1)])
  (fun x=>[(0,some [isI vs,isI ar,.isl 5 (l.map inX)]),(128,some [.v (.slice none 0 0),.v (.slice none 0 0)]),(320,some (x.2.1.regs.map I64)),(448,some (x.2.1.mem.vals.map I64)),(449,some (hdr 450 451 x.2.1.mem.arrays.length)),(450,some (blk0 x.2.1.mem.arrays)),(451,some (blk1 x.2.1.mem.arrays)),(576,some [I64 x.2.1.pc,.msl 320 1 0 14,.msl 448 1 0 x.2.1.mem.vals.length,.msl 449 1 0 x.2.1.mem.arrays.length]),(704,some (trC x.2.2))])
  1024 (fun x=>x.1≤20000∧MOK ⟨vs,ar,l⟩ x.2.1∧x.2.2.length≤2 * x.1∧runM l 20000 ⟨0,Z,⟨va,arr⟩⟩=(runM l (20000 - x.1) x.2.1).map fun q=>(q.1,x.2.2++q.2)) (fun x=>20000 - x.1) ?_ (0,⟨0,Z,⟨va,arr⟩⟩,[]) some [] _ ⟨by simp,hM,by simp,by simp⟩ ?_
 ·rintro ⟨i,s,T⟩ ⟨hi,hs,hT,hrun⟩ again
  simp only at hi hs hT hrun again ⊢
  rcases Nat.lt_or_ge i 20000 with hlt | hge
  ·obtain ⟨x,hx⟩:∃ x,l[s.pc]? = some x:=⟨l[s.pc]'hs.pc,by simp⟩
   have hxi:inOK vs.length ar.length l.length x=true:=by
    have hc':=hc
    simp only [codeOK,Bool.and_eq_true,List.all_eq_true] at hc'
    exact hc'.1.2 x (List.mem_of_getElem? hx)
   have hst:=hstep s T (by omega) x hs hx hxi
   have hso:=step_ok hc hs hx
   have hel:=step_len x s
   have hat:atC l s.pc=x:=by simp [atC,List.getD,hx]
   have hxl:(l.map inX)[s.pc]? = some (inX x):=by rw [List.getElem?_map,hx];rfl
   have hlt':(i:Int)<20000:=by omega
   have hpl:s.pc<l.length:=hs.pc
   have hrn:runM l (20000 - i) s=if x.op=13 then some ((stepM x s).1.mem,(stepM x s).2) else (runM l (20000 - (i+1)) (stepM x s).1).map fun q=>(q.1,(stepM x s).2++q.2):=by
    rw [show 20000 - i=(20000 - (i+1))+1 by omega,CtL.runM,hat]
   unfold exeR at hst
   generalize stepM x s=y at *
   obtain ⟨s2,E⟩:=y
   simp only at hst hso hel hrn
   unfold exB exB' mcA at hst
   obtain ⟨op,xa,xb,xc,xd⟩:=x
   simp only at hrn hst
   have hgx:(l.map inX)[s.pc]? = some [I64 op,I64 xa,I64 xb,I64 xc,I64 xd]:=hxl
   by_cases h13:op=13
   ·subst h13
    refine drvL Tryz.func50 ?_
    simp only [go_sem,hlt',hgx,hpl]
    iterate 3 ((try (refine drvZ Tryz.func50 ?_;simp only [go_sem,hlt',hgx,hpl]));((with_reducible and_intros)<;>try exact sd))
    refine XK.callG [320,448,449,450,451,704] hst ok78 (hhpG (by simp [HH,upd,hOf,hpL,renCs_I,renCs_hdr,renCs_b0,renCs_b1,renCs_tr,renCs,renC,rk0])) (hbT ()) (fun d h' ⟨_,e⟩=>by subst e;simp) ?_
    rintro _ _ ⟨rfl,rfl⟩ _
    iterate 5 ((try (refine drvZ Tryz.func50 ?_;simp only [go_sem,renCs_I,renCs_hdr,renCs_b0,renCs_b1,renCs_tr]));((with_reducible and_intros)<;>try exact sd))
    have hl:=hso.mem
    rw [hl.nv,hl.na]
    refine RetOb.run hl ?_ rfl rfl rfl rfl rfl rfl rfl (by decide)
    subst hR
    rw [hrf,hrun,hrn,if_pos rfl]
    exact ⟨rfl,rfl⟩
   ·have g13:(op == 13)=false:=by simp [h13]
    refine drvL Tryz.func50 ?_
    simp only [go_sem,hlt',hgx,hpl,g13]
    iterate 3 ((try (refine drvZ Tryz.func50 ?_;simp only [go_sem,hlt',hgx,hpl,g13]));((with_reducible and_intros)<;>try exact sd))
    refine XK.callG [320,448,449,450,451,704] hst ok78 (hhpG (by simp [HH,upd,hOf,hpL,renCs_I,renCs_hdr,renCs_b0,renCs_b1,renCs_tr,renCs,renC,rk0])) (hbT ()) (fun d h' ⟨_,e⟩=>by subst e;simp) ?_
    rintro _ _ ⟨rfl,rfl⟩ _
    iterate 5 ((try (refine drvZ Tryz.func50 ?_;simp only [go_sem,renCs_I,renCs_hdr,renCs_b0,renCs_b1,renCs_tr]));((with_reducible and_intros)<;>try exact sd))
    refine again (i+1,s2,T++E) (fun j=>if j=704 then some 1984 else some j) [] _ ⟨hlt,hso,by simp only [List.length_append];omega,?_⟩ (show 20000 - (i+1)<20000 - i by omega) ?_
    ·rw [hrun,hrn,if_neg h13,Option.map_map]
     congr 1
     funext q
     simp
    ·simp only [go_sem,TmOK,DM,DMs,CM,CMs,forall_eq,exists_eq_left,Mq,HpOK,LowOK]
     simp [CMs_I,CMs_hdr,CMs_b0,CMs_b1,CMs_tr,upd]
  ·have hn:¬ (i:Int)<20000:=by omega
   have hi0:20000 - i=0:=by omega
   refine drvL Tryz.func50 ?_
   simp only [go_sem,hn]
   iterate 5 ((try (refine drvZ Tryz.func50 ?_;simp only [go_sem,hn]));((with_reducible and_intros)<;>try exact sd))
   refine RetOb.noRun ?_ (.inr ⟨1280,rfl,rfl⟩)
   subst hR
   rw [hrf,hrun,hi0]
   exact ⟨rfl,rfl⟩
 ·simp only [go_sem,TmOK,DM,DMs,CM,CMs,forall_eq,exists_eq_left,Mq,HpOK,LowOK]
  simp [CMs_I,CMs_hdr,CMs_b0,CMs_b1,trC,upd]
  try simp [CMs]
open CtL (In Cd Mc stepM kindsOf topOf fOK inOK endOK codeOK runM atC halt runC)
theorem heads6 (c:Cd):DC Tryz.prog 18 [.agg (cdC c)] [] (fun r h=>r = .agg (Pg.cells (hdC c))∧h=[]):=by
 have hmx:=mx_eq
 obtain ⟨vs,ar,l⟩:=c
 unfold cdC hdC
 refine dcZ Tryz.func18 ?_
 simp only [go_sem]
 iterate 4 ((try (refine drvZ Tryz.func18 ?_;simp only [go_sem]));((with_reducible and_intros)<;>try exact sd))
 refine RetOb.ofQ (fun _=>none) [] (.agg (Pg.cells ⟨vs,ar,[]⟩)) [] ?_ ⟨rfl,rfl⟩ (by simp)
 simp [Pg.cells,St1.cellsL,isI,enumL,DM,DMs,CM,CMs,HpOK,LowOK,hOf,upd,kf]
theorem l6InstrS (c : Cd) (h1 : c.vars.length ≤ mx) (h2 : c.arrays.length ≤ mx) (h3 : c.list.length ≤ mx) (x : In) :
 DC Tryz.prog 77 [.agg (cdC c),.agg (inX x)] [] (fun r h=>r=DB (inOK c.vars.length c.arrays.length c.list.length x)∧h=[]):=by
 have hmx:=mx_eq
 have hf:=fun k hk n=>l6RangeS c h1 h2 h3 k hk n
 have hpa:=l6PartsS x
 have ret:∀ (b:Bool) (hp:Hp),b=inOK c.vars.length c.arrays.length c.list.length x→RetOb 0 (fun r h=>r=DB (inOK c.vars.length c.arrays.length c.list.length x)∧h=[]) (DB b) hp:=fun b hp h=>RetOb.plain (d:=DB _) ⟨by rw [h],rfl⟩ rfl
 generalize hR:(fun (r:D) (h:List (Option (List C)))=>r=DB (inOK c.vars.length c.arrays.length c.list.length x)∧h=[])=R at ret ⊢
 clear hR
 obtain ⟨op,a,b,c',d⟩:=x
 by_cases o1:op<1
 ·have g1:(op<1)=True:=eq_true o1
  unfold cdC inX
  refine dcZ Tryz.func77 ?_
  simp only [go_sem,g1]
  iterate 5 ((try (refine drvZ Tryz.func77 ?_;simp only [go_sem,g1]));((with_reducible and_intros)<;>try exact sd))
  refine ret _ _ ?_
  have hf0:decide (1≤op)=false:=by simp;omega
  simp [inOK,hf0]
 by_cases o2:13<op
 ·have g1:(op<1)=False:=eq_false o1
  have g2:(13<op)=True:=eq_true o2
  unfold cdC inX
  refine dcZ Tryz.func77 ?_
  simp only [go_sem,g1,g2]
  iterate 5 ((try (refine drvZ Tryz.func77 ?_;simp only [go_sem,g1,g2]));((with_reducible and_intros)<;>try exact sd))
  refine ret _ _ ?_
  have hf0:decide (op≤13)=false:=by simp;omega
  simp [inOK,hf0]
 have g1:(op<1)=False:=eq_false o1
 have g2:(13<op)=False:=eq_false o2
 have hfd:=l6FieldsS op (by omega)
 have hk6:∀ i:Nat,(kindsOf op).getD i 0 ≠ 0→1≤(kindsOf op).getD i 0∧(kindsOf op).getD i 0≤6:=fun i h=>⟨by omega,kinds_le op i⟩
 have hin:inOK c.vars.length c.arrays.length c.list.length ⟨op,a,b,c',d⟩=(fOK c.vars.length c.arrays.length c.list.length ((kindsOf op).getD 0 0) a && fOK c.vars.length c.arrays.length c.list.length ((kindsOf op).getD 1 0) b && fOK c.vars.length c.arrays.length c.list.length ((kindsOf op).getD 2 0) c' && fOK c.vars.length c.arrays.length c.list.length ((kindsOf op).getD 3 0) d):=by
  unfold inOK
  rw [show decide (1≤op)=true by simp;omega,show decide (op≤13)=true by simp;omega]
  rfl
 rw [hin] at ret
 have retF:∀ (i:Nat) (hp:Hp),i<4→fOK c.vars.length c.arrays.length c.list.length ((kindsOf op).getD i 0) ([a,b,c',d].getD i 0)=false→RetOb 0 R (DB false) hp:=fun i hp hi h=>by
  refine ret _ _ ?_
  have:i=0∨i=1∨i=2∨i=3:=by omega
  rcases this with rfl | rfl | rfl | rfl
  ·rw [show fOK c.vars.length c.arrays.length c.list.length ((kindsOf op).getD 0 0) a=false from h];simp only [Bool.and_false,Bool.false_and]
  ·rw [show fOK c.vars.length c.arrays.length c.list.length ((kindsOf op).getD 1 0) b=false from h];simp only [Bool.and_false,Bool.false_and]
  ·rw [show fOK c.vars.length c.arrays.length c.list.length ((kindsOf op).getD 2 0) c'=false from h];simp only [Bool.and_false,Bool.false_and]
  ·rw [show fOK c.vars.length c.arrays.length c.list.length ((kindsOf op).getD 3 0) d=false from h];simp only [Bool.and_false]
 have retT:∀ (hp:Hp),(∀ i:Nat,i<4→fOK c.vars.length c.arrays.length c.list.length ((kindsOf op).getD i 0) ([a,b,c',d].getD i 0)=true)→RetOb 0 R (DB true) hp:=fun hp h=>by
  refine ret _ _ ?_
  have q0:=h 0 (by omega)
  have q1:=h 1 (by omega)
  have q2:=h 2 (by omega)
  have q3:=h 3 (by omega)
  rw [show fOK c.vars.length c.arrays.length c.list.length ((kindsOf op).getD 0 0) a=true from q0,show fOK c.vars.length c.arrays.length c.list.length ((kindsOf op).getD 1 0) b=true from q1,show fOK c.vars.length c.arrays.length c.list.length ((kindsOf op).getD 2 0) c'=true from q2,show fOK c.vars.length c.arrays.length c.list.length ((kindsOf op).getD 3 0) d=true from q3];rfl
 clear ret hin
 have hcx:cdC c=[isI c.vars,isI c.arrays,.isl 5 (c.list.map inX)]:=rfl
 have hlx:inX ⟨op,a,b,c',d⟩=[I64 op,I64 a,I64 b,I64 c',I64 d]:=rfl
 rw [hlx] at hpa ⊢
 simp only [hcx] at hf ⊢
 simp only at hpa
 generalize hLI:c.list.map inX=LI at *
 refine dcZ Tryz.func77 ?_
 simp only [go_sem,g1,g2]
 iterate 6 ((try (refine drvZ Tryz.func77 ?_;simp only [go_sem,g1,g2]));((with_reducible and_intros)<;>try exact sd);(try first | refine XK.p hfd ok91 ?_ | refine XK.gp hfd ok91 ?_ | refine XK.p hpa ok102 ?_ | refine XK.gp hpa ok102 ?_))
 refine Go.loopQ (fun i : Nat => [(2, .c (.ptr 0 0)), (5, DS (sls op)), (6, .c (.isl 1 [[I64 a], [I64 b], [I64 c'], [I64 d]])), (7, DI .i64 i)]) (fun _ => [(0, some [isI c.vars, isI c.arrays, .isl 5 LI])])
  2048 (fun i=>i≤4∧∀ j:Nat,j<i→fOK c.vars.length c.arrays.length c.list.length ((kindsOf op).getD j 0) ([a,b,c',d].getD j 0)=true) (fun i=>4 - i) ?_ 0 some [] _ ⟨by omega,fun j hj=>by omega⟩ ?_
 ·rintro i ⟨hi,hI⟩ again
  rcases Nat.lt_or_ge i 4 with hlt | hge
  ·have hx:[[I64 a],[I64 b],[I64 c'],[I64 d]][i]? = some [I64 ([a,b,c',d].getD i 0)]:=by
    have:i=0∨i=1∨i=2∨i=3:=by omega
    rcases this with rfl | rfl | rfl | rfl<;>rfl
   have hlt':(i:Int)<4:=by omega
   have hlt2:i < [[I64 a],[I64 b],[I64 c'],[I64 d]].length:=hlt
   have hln:=sls_len op i hlt
   have hat:=sls_at op i
   have hkk:=hk6 i
   have retF:=fun hp=>retF i hp hlt
   have hst:∀ q:fOK c.vars.length c.arrays.length c.list.length ((kindsOf op).getD i 0) ([a,b,c',d].getD i 0)=true,i+1≤4∧∀ j:Nat,j<i+1→fOK c.vars.length c.arrays.length c.list.length ((kindsOf op).getD j 0) ([a,b,c',d].getD j 0)=true:=fun q=>⟨hlt,fun j hj=>by
    by_cases e:j=i
    ·subst e;exact q
    ·exact hI j (by omega)⟩
   have hfz:(kindsOf op).getD i 0=0→fOK c.vars.length c.arrays.length c.list.length ((kindsOf op).getD i 0) ([a,b,c',d].getD i 0)=decide ([a,b,c',d].getD i 0=0):=fun e=>by
    rw [e,Bool.eq_iff_iff];simp [fOK,topOf];omega
   generalize [a,b,c',d].getD i 0=n at *
   generalize (kindsOf op).getD i 0=k at *
   generalize [[I64 a],[I64 b],[I64 c'],[I64 d]]=fl at *
   generalize sls op=sp at *
   by_cases hk0:k=0
   ·subst hk0
    have hq:=hfz rfl
    have hnl:¬ i<sp.size:=fun h=>by have:=hln.1 h;omega
    have hge':(sp.size:Int)≤i:=by omega
    by_cases hn:n=0
    ·have e1:(n != 0)=false:=by simp [hn]
     have hs:=hst (by rw [hq];simp [hn])
     refine drvL Tryz.func77 ?_
     simp only [go_sem,hlt',hlt2]
     iterate 8 ((try (refine drvZ Tryz.func77 ?_;simp only [go_sem,hx,hlt',hlt2,hnl,hge',e1]));((with_reducible and_intros)<;>try exact sd);(try first | refine XK.gs (DB false) ?_))
     refine again (i+1) some [] _ hs (by omega) ?_
     simp only [go_sem,TmOK,DM,DMs,CM,CMs,forall_eq,exists_eq_left,Mq,HpOK,LowOK]
     try simp
    ·have e1:(n != 0)=true:=by simp [hn]
     refine drvL Tryz.func77 ?_
     simp only [go_sem,hlt',hlt2]
     iterate 8 ((try (refine drvZ Tryz.func77 ?_;simp only [go_sem,hx,hlt',hlt2,hnl,hge',e1]));((with_reducible and_intros)<;>try exact sd);(try first | refine XK.gs (DB false) ?_))
     exact retF _ (by rw [hq];simp [hn])
   ·have hrg:=hf k (hkk hk0) n
    have hli:i<sp.size:=hln.2 hk0
    have hnge:¬ (sp.size:Int)≤i:=by omega
    have hat:=hat hk0
    cases hq:fOK c.vars.length c.arrays.length c.list.length k n with
    | true =>
     rw [hq] at hrg
     have hs:=hst hq
     refine drvL Tryz.func77 ?_
     simp only [go_sem,hlt',hlt2]
     iterate 6 ((try (refine drvZ Tryz.func77 ?_;simp only [go_sem,hx,hlt',hlt2,hli,hnge,hat]));((with_reducible and_intros)<;>try exact sd);(try first | refine XK.p hrg ok103 ?_ | refine XK.gp hrg ok103 ?_))
     refine again (i+1) some [] _ hs (by omega) ?_
     simp only [go_sem,TmOK,DM,DMs,CM,CMs,forall_eq,exists_eq_left,Mq,HpOK,LowOK]
     try simp
    | false =>
     rw [hq] at hrg
     refine drvL Tryz.func77 ?_
     simp only [go_sem,hlt',hlt2]
     iterate 6 ((try (refine drvZ Tryz.func77 ?_;simp only [go_sem,hx,hlt',hlt2,hli,hnge,hat]));((with_reducible and_intros)<;>try exact sd);(try first | refine XK.p hrg ok103 ?_ | refine XK.gp hrg ok103 ?_))
     exact retF _ hq
  ·obtain rfl:i=4:=by omega
   have h44:(((4:Nat):Int)<4)=False:=eq_false (by decide)
   refine drvL Tryz.func77 ?_
   simp only [go_sem,h44]
   iterate 3 ((try (refine drvZ Tryz.func77 ?_;simp only [go_sem,h44]));((with_reducible and_intros)<;>try exact sd))
   exact retT _ hI
 ·simp only [go_sem,TmOK,DM,DMs,CM,CMs,forall_eq,exists_eq_left,Mq,HpOK,LowOK]
  try simp
theorem codeValidS (c:Cd) (h1:c.vars.length≤2000000) (h2:c.arrays.length≤2000000) (h3:c.list.length≤100000000):DC Tryz.prog 49 [.agg (cdC c)] [] (fun r h=>r=DB (codeOK c)∧h=[]):=by
 have hmx:=mx_eq
 have hf:=fun x=>l6InstrS c (by omega) (by omega) (by omega) x
 have hhd:=heads6 c
 have hh2:=l2Heads (hdC c) (by simp only [hdC];omega) (by simp only [hdC];omega)
 have ret:∀ (b:Bool) (hp:Hp),b=codeOK c→RetOb 0 (fun r h=>r=DB (codeOK c)∧h=[]) (DB b) hp:=fun b hp h=>RetOb.plain (d:=DB _) ⟨by rw [h],rfl⟩ rfl
 generalize hR:(fun (r:D) (h:List (Option (List C)))=>r=DB (codeOK c)∧h=[])=R at ret ⊢
 clear hR
 obtain ⟨vs,ar,l⟩:=c
 simp only at h1 h2 h3 hf
 simp only [hdC] at hhd hh2
 unfold codeOK at ret
 simp only at ret
 generalize hhb:headsOK vs ar=hb at *
 unfold cdC at hf hhd ⊢
 simp only at hf hhd ⊢
 cases hb with
 | false =>
  refine dcZ Tryz.func49 ?_
  simp only [go_sem]
  iterate 6 ((try (refine drvZ Tryz.func49 ?_;simp only [go_sem]));((with_reducible and_intros)<;>try exact sd);(try first | refine XK.p hhd ok18 ?_ | refine XK.gp hhd ok18 ?_ | refine XK.p hh2 ok76 ?_ | refine XK.gp hh2 ok76 ?_))
  exact ret _ _ (by simp)
 | true =>
  by_cases hl1:(l.length:Int)<1
  ·have g1:((l.length:Int)<1)=True:=eq_true hl1
   refine dcZ Tryz.func49 ?_
   simp only [go_sem,List.length_map,g1]
   iterate 6 ((try (refine drvZ Tryz.func49 ?_;simp only [go_sem,List.length_map,g1]));((with_reducible and_intros)<;>try exact sd);(try first | refine XK.p hhd ok18 ?_ | refine XK.gp hhd ok18 ?_ | refine XK.p hh2 ok76 ?_ | refine XK.gp hh2 ok76 ?_))
   refine ret _ _ ?_
   have hf0:decide (1≤(l.length:Int))=false:=by simp;omega
   simp [hf0]
  by_cases hl2:400<(l.length:Int)
  ·have g1:((l.length:Int)<1)=False:=eq_false hl1
   have g2:(400<(l.length:Int))=True:=eq_true hl2
   refine dcZ Tryz.func49 ?_
   simp only [go_sem,List.length_map,g1,g2]
   iterate 6 ((try (refine drvZ Tryz.func49 ?_;simp only [go_sem,List.length_map,g1,g2]));((with_reducible and_intros)<;>try exact sd);(try first | refine XK.p hhd ok18 ?_ | refine XK.gp hhd ok18 ?_ | refine XK.p hh2 ok76 ?_ | refine XK.gp hh2 ok76 ?_))
   refine ret _ _ ?_
   have hf0:decide ((l.length:Int)≤400)=false:=by simp;omega
   simp [hf0]
  have g1:((l.length:Int)<1)=False:=eq_false hl1
  have g2:(400<(l.length:Int))=False:=eq_false hl2
  have t1:decide (1≤(l.length:Int))=true:=by simp;omega
  have t2:decide ((l.length:Int)≤400)=true:=by simp;omega
  rw [t1,t2] at ret
  simp only [Bool.true_and] at ret
  refine dcZ Tryz.func49 ?_
  simp only [go_sem,List.length_map,g1,g2]
  iterate 6 ((try (refine drvZ Tryz.func49 ?_;simp only [go_sem,List.length_map,g1,g2]));((with_reducible and_intros)<;>try exact sd);(try first | refine XK.p hhd ok18 ?_ | refine XK.gp hhd ok18 ?_ | refine XK.p hh2 ok76 ?_ | refine XK.gp hh2 ok76 ?_))
  refine Go.loopQ (fun i : Nat => [(1, .c (.ptr 0 0)), (3, DI .i64 l.length), (4, DI .i64 i)]) (fun _ => [(0, some [isI vs, isI ar, .isl 5 (l.map inX)])])
   1024 (fun i=>i≤l.length∧∀ j:Nat,j<i→∀ x,l[j]? = some x→inOK vs.length ar.length l.length x=true) (fun i=>l.length - i) ?_ 0 some [] _ ⟨by omega,fun j hj=>by omega⟩ ?_
  ·rintro i ⟨hi,hI⟩ again
   rcases Nat.lt_or_ge i l.length with hlt | hge
   ·obtain ⟨x,hx⟩:∃ x,l[i]? = some x:=⟨l[i],by simp [hlt]⟩
    have hxl:(l.map inX)[i]? = some [I64 x.op,I64 x.a,I64 x.b,I64 x.c,I64 x.d]:=by rw [List.getElem?_map,hx];rfl
    have hfx:=hf x
    unfold inX at hfx
    have hmem:x ∈ l:=List.mem_of_getElem? hx
    cases hq:inOK vs.length ar.length l.length x with
    | true =>
     rw [hq] at hfx
     obtain ⟨op,xa,xb,xc,xd⟩:=x
     have hs:i+1≤l.length∧∀ j:Nat,j<i+1→∀ x,l[j]? = some x→inOK vs.length ar.length l.length x=true:=⟨hlt,fun j hj y hy=>by
      by_cases e:j=i
      ·subst e;rw [hx] at hy;cases hy;exact hq
      ·exact hI j (by omega) y hy⟩
     simp only at hxl hfx
     refine drvL Tryz.func49 ?_
     simp only [go_sem,List.length_map,hlt]
     iterate 6 ((try (refine drvZ Tryz.func49 ?_;simp only [go_sem,List.length_map,hlt,hxl]));((with_reducible and_intros)<;>try exact sd);(try first | refine XK.p hfx ok77 ?_ | refine XK.gp hfx ok77 ?_))
     refine again (i+1) some [] _ hs (by omega) ?_
     simp only [go_sem,TmOK,DM,DMs,CM,CMs,forall_eq,exists_eq_left,Mq,HpOK,LowOK]
     try simp
    | false =>
     rw [hq] at hfx
     have hall:l.all (inOK vs.length ar.length l.length)=false:=by
      cases hq2:l.all (inOK vs.length ar.length l.length) with
      | false=>rfl
      | true=>rw [List.all_eq_true] at hq2;rw [hq2 x hmem] at hq;cases hq
     obtain ⟨op,xa,xb,xc,xd⟩:=x
     simp only at hxl hfx
     refine drvL Tryz.func49 ?_
     simp only [go_sem,List.length_map,hlt]
     iterate 6 ((try (refine drvZ Tryz.func49 ?_;simp only [go_sem,List.length_map,hlt,hxl]));((with_reducible and_intros)<;>try exact sd);(try first | refine XK.p hfx ok77 ?_ | refine XK.gp hfx ok77 ?_))
     exact ret _ _ (by rw [hall];rfl)
   ·have hall:l.all (inOK vs.length ar.length l.length)=true:=by
     rw [List.all_eq_true]
     intro x hx
     obtain ⟨j,hj,rfl⟩:=List.getElem_of_mem hx
     exact hI j (by omega) _ (by simp [hj])
    rw [hall,Bool.true_and] at ret
    have hn:¬ i<l.length:=by omega
    obtain ⟨k,hk⟩:∃ k,l.length=k+1:=⟨l.length - 1,by omega⟩
    have hk1:(l.length:Int) - 1=(k:Int):=by omega
    have hkl:k<l.length:=by omega
    obtain ⟨x,hx⟩:∃ x,l[k]? = some x:=⟨l[k],by simp [hkl]⟩
    have hxl:(l.map inX)[k]? = some [I64 x.op,I64 x.a,I64 x.b,I64 x.c,I64 x.d]:=by rw [List.getElem?_map,hx];rfl
    have hen:endOK l=(x.op == 13 || x.op == 8):=by
     unfold endOK atC
     rw [hk,Nat.add_sub_cancel,List.getD_eq_getElem?_getD,hx];rfl
    rw [hen] at ret
    clear again
    obtain ⟨op,xa,xb,xc,xd⟩:=x
    simp only at hxl ret
    by_cases h13:op=13
    ·subst h13
     refine drvL Tryz.func49 ?_
     simp only [go_sem,List.length_map,hn]
     iterate 6 ((try (refine drvZ Tryz.func49 ?_;simp only [go_sem,List.length_map,hn,hk1,hkl,hxl]));((with_reducible and_intros)<;>try exact sd))
     exact ret _ _ (by simp)
    ·have e13:(op == 13)=false:=by simp [h13]
     refine drvL Tryz.func49 ?_
     simp only [go_sem,List.length_map,hn]
     iterate 6 ((try (refine drvZ Tryz.func49 ?_;simp only [go_sem,List.length_map,hn,hk1,hkl,hxl,e13]));((with_reducible and_intros)<;>try exact sd))
     exact ret _ _ (by simp [e13])
  ·simp only [go_sem,TmOK,DM,DMs,CM,CMs,forall_eq,exists_eq_left,Mq,HpOK,LowOK]
   try simp
   try exact fun a _=>rfl
theorem runCodeS (c:Cd) (m:Mm) (h1:c.vars.length≤2000000) (h2:c.arrays.length≤2000000) (h3:c.list.length≤100000000):DC Tryz.prog 25 [.agg (cdC c),.agg m.cells] [] (fun r h=>r = .tup [.agg (runC c m).1.cells,.c (trD (runC c m).2.1),DB (runC c m).2.2]∧h=[]):=by
 have hmx:=mx_eq
 have hcv:=codeValidS c h1 h2 h3
 have hhd:=heads6 c
 have hft:=l3Fits (hdC c) m (by simp only [hdC];omega) (by simp only [hdC];omega)
 have hrn:=l6RunS c m
 generalize hR:(fun (r:D) (h:List (Option (List C)))=>r = .tup [.agg (runC c m).1.cells,.c (trD (runC c m).2.1),DB (runC c m).2.2]∧h=[])=R
 have hfl:(codeOK c && memOK c.vars c.arrays m)=false→∀ (k:Nat) (hp:Hp),hp k=some (some [])→RetOb 0 R (.tup [.agg [.v (.slice none 0 0),.v (.slice none 0 0)],.c (.msl k 2 0 0),DB false]) hp:=fun h k hp hk=>by
  refine RetOb.noRun ?_ (.inr ⟨k,rfl,hk⟩)
  rw [← hR]
  have hrf:runC c m=(⟨[],[]⟩,[],false):=by unfold runC;rw [h];rfl
  rw [hrf]
  exact ⟨rfl,rfl⟩
 cases hco:codeOK c with
 | false =>
  rw [hco] at hcv hfl
  have hfl2:=hfl rfl
  clear hfl
  clear hrn
  obtain ⟨vs,ar,l⟩:=c
  obtain ⟨va,arr⟩:=m
  simp only [hdC] at hhd hft
  unfold cdC at *
  simp only at *
  refine dcZ Tryz.func25 ?_
  simp only [go_sem,Mm.cells]
  iterate 8 ((try (refine drvZ Tryz.func25 ?_;simp only [go_sem,Mm.cells]));((with_reducible and_intros)<;>try exact sd);(try first | refine XK.p hcv ok49 ?_ | refine XK.gp hcv ok49 ?_ | refine XK.gs (DB false) ?_))
  exact hfl2 1024 _ rfl
 | true =>
  rw [hco] at hcv
  cases hmo:memOK c.vars c.arrays m with
  | false =>
   rw [hco,hmo] at hfl
   have hfl2:=hfl rfl
   clear hfl
   clear hrn
   simp only [hdC] at hhd hft
   rw [hmo] at hft
   obtain ⟨vs,ar,l⟩:=c
   obtain ⟨va,arr⟩:=m
   unfold cdC at *
   simp only at *
   refine dcZ Tryz.func25 ?_
   simp only [go_sem,Mm.cells]
   iterate 8 ((try (refine drvZ Tryz.func25 ?_;simp only [go_sem,Mm.cells]));((with_reducible and_intros)<;>try exact sd);(try first | refine XK.p hcv ok49 ?_ | refine XK.gp hcv ok49 ?_ | refine XK.p hhd ok18 ?_ | refine XK.gp hhd ok18 ?_ | refine XK.p hft ok26 ?_ | refine XK.gp hft ok26 ?_))
   exact hfl2 1024 _ rfl
  | true =>
   have hrn:=hrn hco hmo
   clear hfl
   simp only [hdC] at hhd hft
   rw [hmo] at hft
   generalize hX:runC c m=X at *
   obtain ⟨⟨u1,u2⟩,t1,b1⟩:=X
   obtain ⟨vs,ar,l⟩:=c
   obtain ⟨va,arr⟩:=m
   unfold cdC at *
   simp only at *
   refine dcZ Tryz.func25 ?_
   simp only [go_sem,Mm.cells]
   iterate 10 ((try (refine drvZ Tryz.func25 ?_;simp only [go_sem,Mm.cells]));((with_reducible and_intros)<;>try exact sd);(try first | refine XK.p hcv ok49 ?_ | refine XK.gp hcv ok49 ?_ | refine XK.p hhd ok18 ?_ | refine XK.gp hhd ok18 ?_ | refine XK.p hft ok26 ?_ | refine XK.gp hft ok26 ?_ | refine XK.p hrn ok50 ?_ | refine XK.gp hrn ok50 ?_))
   refine RetOb.ofQ (fun _=>none) [] (.tup [.agg (Mm.cells ⟨u1,u2⟩),.c (trD t1),DB b1]) [] ?_ (by rw [← hR];exact ⟨rfl,rfl⟩) (by simp)
   simp [Mm.cells,isI,trD,enumL,DM,DMs,CM,CMs,HpOK,LowOK,hOf,upd,kf]
theorem put_at : ∀ (ds A B : List C), ds.length ≤ B.length → putCells (A ++ B) A.length ds = A ++ ds ++ B.drop ds.length
 | [],A,B,_=>by simp [putCells]
 | d :: r,A,[],h=>by simp at h
 | d :: r,A,b :: B,h=>by
  have e:(A++b :: B).set A.length d=(A++[d])++B:=by
   rw [List.set_append_right _ _ (Nat.le_refl _)];simp
  have ih:=put_at r (A++[d]) B (by simpa using h)
  simp only [putCells,e]
  rw [show A.length+1=(A++[d]).length by simp,ih]
  simp
open CtL (In Cd kindsOf topOf fOK inOK endOK codeOK atC halt)
theorem shapeI0 (op:Int) (h:op<1∨13<op):DC Tryz.prog 86 [DI .i64 op] [] (fun r h=>r=DS ByteArray.empty∧h=[]):=by
 have hmx:=mx_eq
 have hw:=CtR.within op 1 13
 have hf:(decide (1≤op) && decide (op≤13))=false:=by rw [Bool.and_eq_false_iff];simp;omega
 rw [hf] at hw
 refine dcZ Tryz.func86 ?_
 simp only [go_sem]
 iterate 4 ((try (refine drvZ Tryz.func86 ?_;simp only [go_sem]));((with_reducible and_intros)<;>try exact sd);(try first | refine XK.p hw ok60 ?_ | refine XK.gp hw ok60 ?_))
 exact RetOb.plain (d:=DS _) ⟨rfl,rfl⟩ rfl
theorem fieldOkG (c : Cd) (h1 : c.vars.length ≤ mx) (h2 : c.arrays.length ≤ mx) (h3 : c.list.length ≤ mx) (k : Nat) (hk : k ≤ 6) (n : Int) :
 DC Tryz.prog 88 [.agg (cdC c),.c (.v (.int .u8 (ltr k).toNat)),DI .i64 n] [] (fun r h=>r=DB (fOK c.vars.length c.arrays.length c.list.length k n)∧h=[]):=by
 have hmx:=mx_eq
 have hw:=fun hi=>CtR.within n 0 hi
 have hw4:=CtR.within n 4 10
 obtain ⟨vs,ar,ls⟩:=c
 simp only at h1 h2 h3
 have ret:∀ (b:Bool) (hp:Hp),b=fOK vs.length ar.length ls.length k n→RetOb 0 (fun r h=>r=DB (fOK vs.length ar.length ls.length k n)∧h=[]) (DB b) hp:=fun b hp h=>RetOb.plain (d:=DB _) ⟨by rw [h],rfl⟩ rfl
 generalize hR:(fun (r:D) (h:List (Option (List C)))=>r=DB (fOK vs.length ar.length ls.length k n)∧h=[])=R at ret ⊢
 clear hR
 have key:k=0∨k=1∨k=2∨k=3∨k=4∨k=5∨k=6:=by omega
 unfold cdC
 rcases key with rfl | rfl | rfl | rfl | rfl | rfl | rfl
 ·rw [show (((ltr 0).toNat:Nat):Int)=45 from rfl]
  refine dcZ Tryz.func88 ?_
  simp only [go_sem]
  iterate 9 ((try (refine drvZ Tryz.func88 ?_;simp only [go_sem]));((with_reducible and_intros)<;>try exact sd))
  refine ret _ _ ?_
  rw [Bool.eq_iff_iff];simp [fOK,topOf];omega
 ·rw [show (((ltr 1).toNat:Nat):Int)=114 from rfl]
  have hw:=hw (13)
  generalize hB:(decide (0≤n) && decide (n≤13))=B at hw
  refine dcZ Tryz.func88 ?_
  simp only [go_sem]
  iterate 10 ((try (refine drvZ Tryz.func88 ?_;simp only [go_sem,Int.reduceLE,List.length_map]));((with_reducible and_intros)<;>try exact sd);(try first | refine XK.p hw ok60 ?_ | refine XK.gp hw ok60 ?_))
  exact ret _ _ (by rw [← hB];simp [fOK,topOf])
 ·rw [show (((ltr 2).toNat:Nat):Int)=110 from rfl]
  have hw:=hw (255)
  generalize hB:(decide (0≤n) && decide (n≤255))=B at hw
  refine dcZ Tryz.func88 ?_
  simp only [go_sem]
  iterate 10 ((try (refine drvZ Tryz.func88 ?_;simp only [go_sem,Int.reduceLE,List.length_map]));((with_reducible and_intros)<;>try exact sd);(try first | refine XK.p hw ok60 ?_ | refine XK.gp hw ok60 ?_))
  exact ret _ _ (by rw [← hB];simp [fOK,topOf])
 ·rw [show (((ltr 3).toNat:Nat):Int)=118 from rfl]
  have hw:=hw ((vs.length:Int) - 1)
  generalize hB:(decide (0≤n) && decide (n≤(vs.length:Int) - 1))=B at hw
  refine dcZ Tryz.func88 ?_
  simp only [go_sem]
  iterate 10 ((try (refine drvZ Tryz.func88 ?_;simp only [go_sem,Int.reduceLE,List.length_map]));((with_reducible and_intros)<;>try exact sd);(try first | refine XK.p hw ok60 ?_ | refine XK.gp hw ok60 ?_))
  exact ret _ _ (by rw [← hB];simp [fOK,topOf])
 ·rw [show (((ltr 4).toNat:Nat):Int)=97 from rfl]
  have hw:=hw ((ar.length:Int) - 1)
  generalize hB:(decide (0≤n) && decide (n≤(ar.length:Int) - 1))=B at hw
  refine dcZ Tryz.func88 ?_
  simp only [go_sem]
  iterate 10 ((try (refine drvZ Tryz.func88 ?_;simp only [go_sem,Int.reduceLE,List.length_map]));((with_reducible and_intros)<;>try exact sd);(try first | refine XK.p hw ok60 ?_ | refine XK.gp hw ok60 ?_))
  exact ret _ _ (by rw [← hB];simp [fOK,topOf])
 ·rw [show (((ltr 5).toNat:Nat):Int)=111 from rfl]
  have hw:=hw4
  generalize hB:(decide (4≤n) && decide (n≤10))=B at hw
  refine dcZ Tryz.func88 ?_
  simp only [go_sem]
  iterate 10 ((try (refine drvZ Tryz.func88 ?_;simp only [go_sem,Int.reduceLE,List.length_map]));((with_reducible and_intros)<;>try exact sd);(try first | refine XK.p hw ok60 ?_ | refine XK.gp hw ok60 ?_))
  exact ret _ _ (by rw [← hB];simp [fOK,topOf])
 ·rw [show (((ltr 6).toNat:Nat):Int)=105 from rfl]
  have hw:=hw ((ls.length:Int) - 1)
  generalize hB:(decide (0≤n) && decide (n≤(ls.length:Int) - 1))=B at hw
  refine dcZ Tryz.func88 ?_
  simp only [go_sem]
  iterate 10 ((try (refine drvZ Tryz.func88 ?_;simp only [go_sem,Int.reduceLE,List.length_map]));((with_reducible and_intros)<;>try exact sd);(try first | refine XK.p hw ok60 ?_ | refine XK.gp hw ok60 ?_))
  exact ret _ _ (by rw [← hB];simp [fOK,topOf])
theorem instrOkG (c : Cd) (h1 : c.vars.length ≤ mx) (h2 : c.arrays.length ≤ mx) (h3 : c.list.length ≤ mx) (x : In) :
 DC Tryz.prog 62 [.agg (cdC c),.agg (inX x)] [] (fun r h=>r=DB (inOK c.vars.length c.arrays.length c.list.length x)∧h=[]):=by
 have hmx:=mx_eq
 have hf:=fun k hk n=>fieldOkG c h1 h2 h3 k hk n
 have hfi:=fieldsI x
 have ret:∀ (b:Bool) (hp:Hp),b=inOK c.vars.length c.arrays.length c.list.length x→RetOb 0 (fun r h=>r=DB (inOK c.vars.length c.arrays.length c.list.length x)∧h=[]) (DB b) hp:=fun b hp h=>RetOb.plain (d:=DB _) ⟨by rw [h],rfl⟩ rfl
 generalize hR:(fun (r:D) (h:List (Option (List C)))=>r=DB (inOK c.vars.length c.arrays.length c.list.length x)∧h=[])=R at ret ⊢
 clear hR
 obtain ⟨op,a,b,c',d⟩:=x
 have hcx:cdC c=[isI c.vars,isI c.arrays,.isl 5 (c.list.map inX)]:=rfl
 have hlx:inX ⟨op,a,b,c',d⟩=[I64 op,I64 a,I64 b,I64 c',I64 d]:=rfl
 rw [hlx] at hfi ⊢
 simp only [hcx] at hf ⊢
 simp only at hfi
 generalize hLI:c.list.map inX=LI at *
 by_cases ho:op<1∨13<op
 ·have hsh:=shapeI0 op ho
  have hret:false=inOK c.vars.length c.arrays.length c.list.length ⟨op,a,b,c',d⟩:=by
   have hf0:(decide (1≤op) && decide (op≤13))=false:=by rw [Bool.and_eq_false_iff];simp;omega
   simp [inOK,hf0]
  have ret:=fun hp=>ret false hp hret
  have hse:(ByteArray.empty.toList == (ByteArray.toList { data:=#[] }))=true:=by simp [toList_nil]
  have hx0:([[I64 a],[I64 b],[I64 c'],[I64 d]]:List (List C))[0]? = some [I64 a]:=rfl
  refine dcZ Tryz.func62 ?_
  simp only [go_sem]
  iterate 5 ((try (refine drvZ Tryz.func62 ?_;simp only [go_sem]));((with_reducible and_intros)<;>try exact sd);(try first | refine XK.p hsh ok86 ?_ | refine XK.gp hsh ok86 ?_ | refine XK.p hfi ok87 ?_ | refine XK.gp hfi ok87 ?_))
  refine Go.loop ?_
  refine drvL Tryz.func62 ?_
  simp only [go_sem,hx0,hse]
  iterate 6 ((try (refine drvZ Tryz.func62 ?_;simp only [go_sem,hx0,hse]));((with_reducible and_intros)<;>try exact sd);(try first | refine XK.gs (DB false) ?_))
  exact ret _
 have o1:1≤op:=by omega
 have o2:op≤13:=by omega
 have hsh:=shapeI op ⟨o1,o2⟩
 have hin:inOK c.vars.length c.arrays.length c.list.length ⟨op,a,b,c',d⟩=(fOK c.vars.length c.arrays.length c.list.length ((kindsOf op).getD 0 0) a && fOK c.vars.length c.arrays.length c.list.length ((kindsOf op).getD 1 0) b && fOK c.vars.length c.arrays.length c.list.length ((kindsOf op).getD 2 0) c' && fOK c.vars.length c.arrays.length c.list.length ((kindsOf op).getD 3 0) d):=by
  unfold inOK
  rw [show decide (1≤op)=true by simp;omega,show decide (op≤13)=true by simp;omega]
  rfl
 rw [hin] at ret
 have retF:∀ (i:Nat) (hp:Hp),i<4→fOK c.vars.length c.arrays.length c.list.length ((kindsOf op).getD i 0) ([a,b,c',d].getD i 0)=false→RetOb 0 R (DB false) hp:=fun i hp hi h=>by
  refine ret _ _ ?_
  have:i=0∨i=1∨i=2∨i=3:=by omega
  rcases this with rfl | rfl | rfl | rfl
  ·rw [show fOK c.vars.length c.arrays.length c.list.length ((kindsOf op).getD 0 0) a=false from h];simp only [Bool.and_false,Bool.false_and]
  ·rw [show fOK c.vars.length c.arrays.length c.list.length ((kindsOf op).getD 1 0) b=false from h];simp only [Bool.and_false,Bool.false_and]
  ·rw [show fOK c.vars.length c.arrays.length c.list.length ((kindsOf op).getD 2 0) c'=false from h];simp only [Bool.and_false,Bool.false_and]
  ·rw [show fOK c.vars.length c.arrays.length c.list.length ((kindsOf op).getD 3 0) d=false from h];simp only [Bool.and_false]
 have retT:∀ (hp:Hp),(∀ i:Nat,i<4→fOK c.vars.length c.arrays.length c.list.length ((kindsOf op).getD i 0) ([a,b,c',d].getD i 0)=true)→RetOb 0 R (DB true) hp:=fun hp h=>by
  refine ret _ _ ?_
  rw [show fOK c.vars.length c.arrays.length c.list.length ((kindsOf op).getD 0 0) a=true from h 0 (by omega),show fOK c.vars.length c.arrays.length c.list.length ((kindsOf op).getD 1 0) b=true from h 1 (by omega),show fOK c.vars.length c.arrays.length c.list.length ((kindsOf op).getD 2 0) c'=true from h 2 (by omega),show fOK c.vars.length c.arrays.length c.list.length ((kindsOf op).getD 3 0) d=true from h 3 (by omega)];rfl
 clear ret hin
 have hsz:(shp op).size=4:=rfl
 have hse:((shp op).toList == (ByteArray.toList { data:=#[] }))=false:=shp_ne op ⟨o1,o2⟩
 refine dcZ Tryz.func62 ?_
 simp only [go_sem]
 iterate 5 ((try (refine drvZ Tryz.func62 ?_;simp only [go_sem]));((with_reducible and_intros)<;>try exact sd);(try first | refine XK.p hsh ok86 ?_ | refine XK.gp hsh ok86 ?_ | refine XK.p hfi ok87 ?_ | refine XK.gp hfi ok87 ?_))
 refine Go.loopQ (fun i : Nat => [(2, .c (.ptr 0 0)), (5, DS (shp op)), (12, .c (.isl 1 [[I64 a], [I64 b], [I64 c'], [I64 d]])), (13, DI .i64 4), (14, DI .i64 i)]) (fun _ => [(0, some [isI c.vars, isI c.arrays, .isl 5 LI])])
  4096 (fun i=>i≤4∧∀ j:Nat,j<i→fOK c.vars.length c.arrays.length c.list.length ((kindsOf op).getD j 0) ([a,b,c',d].getD j 0)=true) (fun i=>4 - i) ?_ 0 some [] _ ⟨by omega,fun j hj=>by omega⟩ ?_
 ·rintro i ⟨hi,hI⟩ again
  rcases Nat.lt_or_ge i 4 with hlt | hge
  ·have hx:[[I64 a],[I64 b],[I64 c'],[I64 d]][i]? = some [I64 ([a,b,c',d].getD i 0)]:=by
    have:i=0∨i=1∨i=2∨i=3:=by omega
    rcases this with rfl | rfl | rfl | rfl<;>rfl
   have hc:=hf _ (kinds_le op i) ([a,b,c',d].getD i 0)
   have hat:=shp_at op i hlt
   have hlt':(i:Int)<4:=by omega
   have retF:=fun hp=>retF i hp hlt
   have hst:∀ q:fOK c.vars.length c.arrays.length c.list.length ((kindsOf op).getD i 0) ([a,b,c',d].getD i 0)=true,i+1≤4∧∀ j:Nat,j<i+1→fOK c.vars.length c.arrays.length c.list.length ((kindsOf op).getD j 0) ([a,b,c',d].getD j 0)=true:=fun q=>⟨hlt,fun j hj=>by
    by_cases e:j=i
    ·subst e;exact q
    ·exact hI j (by omega)⟩
   generalize [a,b,c',d].getD i 0=n at *
   generalize (kindsOf op).getD i 0=k at *
   generalize [[I64 a],[I64 b],[I64 c'],[I64 d]]=fl at *
   generalize shp op=sp at *
   cases hq:fOK c.vars.length c.arrays.length c.list.length k n with
   | true =>
    rw [hq] at hc
    have hs:=hst hq
    refine drvL Tryz.func62 ?_
    simp only [go_sem,hlt']
    iterate 5 ((try (refine drvZ Tryz.func62 ?_;simp only [go_sem,hx,hlt',hat,hsz,hse]));((with_reducible and_intros)<;>try exact sd);(try first | refine XK.p hc ok88 ?_ | refine XK.gp hc ok88 ?_))
    refine again (i+1) some [] _ hs (by omega) ?_
    simp only [go_sem,TmOK,DM,DMs,CM,CMs,forall_eq,exists_eq_left,Mq,HpOK,LowOK]
    try simp
   | false =>
    rw [hq] at hc
    refine drvL Tryz.func62 ?_
    simp only [go_sem,hlt']
    iterate 5 ((try (refine drvZ Tryz.func62 ?_;simp only [go_sem,hx,hlt',hat,hsz,hse]));((with_reducible and_intros)<;>try exact sd);(try first | refine XK.p hc ok88 ?_ | refine XK.gp hc ok88 ?_))
    exact retF _ hq
  ·obtain rfl:i=4:=by omega
   have h44:(((4:Nat):Int)<4)=False:=eq_false (by decide)
   refine drvL Tryz.func62 ?_
   simp only [go_sem,h44]
   iterate 3 ((try (refine drvZ Tryz.func62 ?_;simp only [go_sem,h44]));((with_reducible and_intros)<;>try exact sd))
   exact retT _ hI
 ·simp only [go_sem,TmOK,DM,DMs,CM,CMs,forall_eq,exists_eq_left,Mq,HpOK,LowOK]
  simp
  try exact fun a _=>rfl
end Go.Proofs.YtoakidkcppinpaaGreat.CtD
