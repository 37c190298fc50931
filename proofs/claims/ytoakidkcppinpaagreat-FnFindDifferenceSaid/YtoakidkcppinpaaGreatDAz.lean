/- Contracts of functions of the program, one behind the other, as plain data: what each call returns and which blocks it leaves. -/
import Derived.Test.YtoakidkcppinpaaGreatDFacts
import Derived.Test.YtoakidkcppinpaaGreatDAi
import Derived.Test.YtoakidkcppinpaaGreatDAl
import Derived.Test.YtoakidkcppinpaaGreatDAn
import Derived.Test.YtoakidkcppinpaaGreatDAt
import Derived.Test.YtoakidkcppinpaaGreatDAu
import Derived.Test.YtoakidkcppinpaaGreatDAw
import Derived.Test.YtoakidkcppinpaaGreatDAx
import Derived.Test.YtoakidkcppinpaaGreatDAy
import Derived.Test.YtoakidkcppinpaaGreatDAp
import Derived.Test.YtoakidkcppinpaaGreatDAq
import Derived.Test.YtoakidkcppinpaaGreatDAm
import Derived.Test.YtoakidkcppinpaaGreatDAv
import Derived.Test.YtoakidkcppinpaaGreatDAs
import Derived.Test.YtoakidkcppinpaaGreatDAo
set_option linter.unusedVariables false
set_option linter.unusedSimpArgs false
set_option linter.unusedSectionVars false
set_option maxHeartbeats 16000000
set_option maxRecDepth 100000
namespace Go.Proofs.YtoakidkcppinpaaGreat.CtD
open Go Go.CT CtF CtR
variable [Yn]
open CtL (In Cd Mc stepM kindsOf topOf fOK inOK endOK codeOK runM atC halt)
def exQ (o:Option (Mm × List Ev)) (b:Bool) (s:Mc) (T:List Ev):Prop:=match o with | some q=>b=true∧s.mem=q.1∧T=q.2 | none=>b=false
def exR (c:Cd) (s0:Mc) (r:D) (h:List (Option (List C))):Prop :=
  ∃ (b:Bool) (s':Mc) (T':List Ev),r=DB b∧h=stB s'++[some [.msl 8 2 0 T'.length],none,some (trC T')]∧MOK c s'∧T'.length≤40000∧exQ (runM c.list 20000 s0) b s' T'
theorem executeI (c:Cd) (hc:codeOK c=true) (s0:Mc) (hs0:MOK c s0):DC Tryz.prog 57 [.agg (cdC c),.c (.ptr 0 0),.c (.clo 58 [.ptr 6 0])] (stB s0++[some [.msl 7 2 0 0],some []]) (exR c s0):=by
  have hmx:=mx_eq
  have hcl:=code_len hc
  have ret:∀ (b:Bool) (s':Mc) (T':List Ev) (K n:Nat) (cs c0 c1 c2 c3 c4 c5:List C) (hp:Hp),hp 0=some (some c0)→hp 1=some (some c1)→hp 2=some (some c2)→hp 3=some (some c3)→hp 4=some (some c4)→hp 5=some (some c5)→hp 6=some (some [.msl K 2 0 n])→hp 7 ≠ none→hp K=some (some cs)→8≤K →
      c0=[I64 s'.pc,.msl 1 1 0 14,.msl 2 1 0 s'.mem.vals.length,.msl 3 1 0 s'.mem.arrays.length]→c1=s'.regs.map I64→c2=s'.mem.vals.map I64→c3=hdr 4 5 s'.mem.arrays.length→c4=blk0 s'.mem.arrays→c5=blk1 s'.mem.arrays→cs=trC T'→n=T'.length→MOK c s'→T'.length≤40000→exQ (runM c.list 20000 s0) b s' T'→RetOb 8 (exR c s0) (DB b) hp:=by
    rintro b s' T' K n cs c0 c1 c2 c3 c4 c5 hp q0 q1 q2 q3 q4 q5 q6 q7 qk hK rfl rfl rfl rfl rfl rfl rfl rfl hm hT hq
    refine RetOb.ofQ (fun j=>if j=8 then some K else some j) [] (DB b) (stB s'++[some [.msl 8 2 0 T'.length],none,some (trC T')]) ?_ ⟨b,s',T',rfl,rfl,hm,hT,hq⟩ (by simp [stB])
    simp [stB,enumL,hOf,DM,DMs,CM,CMs,HpOK,LowOK,upd,CMs_I,CMs_tr,CMs_hdr,CMs_b0,CMs_b1,q0,q1,q2,q3,q4,q5,q6,q7,qk]
    omega
  generalize hR:exR c s0=R at ret ⊢
  clear hR
  have hstep:=fun s x hs hx h=>stepI c s x (by omega) hs hx h
  obtain ⟨vs,ar,l⟩:=c
  simp only at hcl ret
  unfold stB cdC
  refine dcZ Tryz.func57 ?_
  simp only [go_sem]
  iterate 2 ((try (refine drvZ Tryz.func57 ?_;simp only [go_sem]));((with_reducible and_intros)<;>try exact sd))
  refine Go.loopQ (fun x : Nat × Mc × List Ev => [(1, .c (.ptr 0 0)), (2, .c (.clo 58 [.ptr 6 0])), (3, .c (.ptr 8 0)), (8, DI .i64 x.1)])
    (fun x=>[(0,some [I64 x.2.1.pc,.msl 1 1 0 14,.msl 2 1 0 x.2.1.mem.vals.length,.msl 3 1 0 x.2.1.mem.arrays.length]),(1,some (x.2.1.regs.map I64)),(2,some (x.2.1.mem.vals.map I64)),(3,some (hdr 4 5 x.2.1.mem.arrays.length)),(4,some (blk0 x.2.1.mem.arrays)),(5,some (blk1 x.2.1.mem.arrays)),(6,some [.msl 20 2 0 x.2.2.length]),(7,none),(8,some [isI vs,isI ar,.isl 5 (l.map inX)]),(20,some (trC x.2.2))])
    8192 (fun x=>x.1≤20000∧MOK ⟨vs,ar,l⟩ x.2.1∧x.2.2.length≤2 * x.1∧runM l 20000 s0=(runM l (20000 - x.1) x.2.1).map fun q=>(q.1,x.2.2++q.2)) (fun x=>20000 - x.1) ?_ (0,s0,[]) (fun j=>if j=20 then some 7 else some j) [] _ ⟨by simp,hs0,by simp,by simp⟩ ?_
  · rintro ⟨i,s,T⟩ ⟨hi,hs,hT,hrun⟩ again
    simp only at hi hs hT hrun again ⊢
    rcases Nat.lt_or_ge i 20000 with hlt | hge
    · obtain ⟨x,hx⟩:∃ x,l[s.pc]? = some x:=⟨l[s.pc]'hs.pc,by simp⟩
      have hxi:inOK vs.length ar.length l.length x=true:=by
        have hc':=hc
        simp only [codeOK,Bool.and_eq_true,List.all_eq_true] at hc'
        exact hc'.1.2 x (List.mem_of_getElem? hx)
      have hst:=hstep s x hs hx hxi
      have hso:=step_ok hc hs hx
      have hel:=step_len x s
      have hat:atC l s.pc=x:=by simp [atC,List.getD,hx]
      have hxl:(l.map inX)[s.pc]? = some (inX x):=by rw [List.getElem?_map,hx];rfl
      have hlt':(i:Int)<20000:=by omega
      have hpl:s.pc<l.length:=hs.pc
      have hrn:runM l (20000 - i) s=if x.op=13 then some ((stepM x s).1.mem,(stepM x s).2) else (runM l (20000 - (i+1)) (stepM x s).1).map fun q=>(q.1,(stepM x s).2++q.2):=by
        rw [show 20000 - i=(20000 - (i+1))+1 by omega,CtL.runM,hat]
      unfold stepR at hst
      generalize stepM x s=y at *
      obtain ⟨s2,E⟩:=y
      simp only at hst hso hel hrn
      have hrf:=ranFn s.pc T E (by omega) (by omega)
      unfold stB cdC at hst
      obtain ⟨op,xa,xb,xc,xd⟩:=x
      simp only at hrn
      refine drvL Tryz.func57 ?_
      simp only [go_sem,hlt']
      iterate 3 ((try (refine drvZ Tryz.func57 ?_;simp only [go_sem,hlt']));((with_reducible and_intros)<;>try exact sd))
      refine XK.callG [0,1,2,3,4,5] hst ok84 (hhpG (by simp [HH,upd,hOf,hpL,renCs_I,renCs_hdr,renCs_b0,renCs_b1,renCs,renC,rk0])) (hbT ()) (fun d h' ⟨_,e⟩=>by subst e;simp [stB]) ?_
      rintro _ _ ⟨rfl,rfl⟩ _
      ((try (refine drvZ Tryz.func57 ?_;simp only [go_sem,stB,renCs_I,renCs_hdr,renCs_b0,renCs_b1,renCs_tr]));((with_reducible and_intros)<;>try exact sd))
      refine XK.callG [6,20,8832] hrf ok58 (hhpG (by simp [HH,upd,hOf,hpL,appUp,upsFrom,rkey,renCs_tr,renCs,renC,rk0])) (hbT ()) (fun d h' ⟨_,e⟩=>by subst e;simp) ?_
      rintro _ _ ⟨rfl,rfl⟩ _
      have hgx:(l.map inX)[s.pc]? = some [I64 op,I64 xa,I64 xb,I64 xc,I64 xd]:=hxl
      by_cases h13:op=13
      · subst h13
        iterate 3 ((try (refine drvZ Tryz.func57 ?_;simp only [go_sem,hgx,hpl,renCs_tr,List.length_map]));((with_reducible and_intros)<;>try exact sd))
        rw [if_pos rfl] at hrn
        refine ret true s2 (T++E) _ _ _ _ _ _ _ _ _ _ rfl rfl rfl rfl rfl rfl rfl (by simp [upd,hOf,appUp,upsFrom,rkey]) rfl (by decide) rfl rfl rfl rfl rfl rfl rfl rfl hso (by rw [List.length_append];omega) ?_
        rw [hrun,hrn]
        exact ⟨rfl,rfl,rfl⟩
      · have g13:(op == 13)=false:=by simp [h13]
        iterate 3 ((try (refine drvZ Tryz.func57 ?_;simp only [go_sem,hgx,hpl,renCs_tr,List.length_map,g13,h13]));((with_reducible and_intros)<;>try exact sd))
        rw [if_neg h13] at hrn
        refine again (i+1,s2,T++E) (fun j=>if j=20 then some 8896 else some j) [] _ ⟨hlt,hso,by rw [List.length_append];omega,?_⟩ (by simp only;omega) ?_
        · rw [hrun,hrn,Option.map_map]
          congr 1
          funext q
          simp
        · simp only [go_sem,TmOK,DM,DMs,CM,CMs,forall_eq,exists_eq_left,Mq,HpOK,LowOK]
          simp [upd,hOf,hpL,CMs_I,CMs_tr,CMs_hdr,CMs_b0,CMs_b1,CM]
    · obtain rfl:i=20000:=by omega
      have hz:(((20000:Nat):Int)<20000)=False:=eq_false (by decide)
      refine drvL Tryz.func57 ?_
      simp only [go_sem,hz]
      iterate 3 ((try (refine drvZ Tryz.func57 ?_;simp only [go_sem,hz]));((with_reducible and_intros)<;>try exact sd))
      refine ret false s T _ _ _ _ _ _ _ _ _ _ rfl rfl rfl rfl rfl rfl rfl (by simp [upd,hOf]) rfl (by decide) rfl rfl rfl rfl rfl rfl rfl rfl hs (by omega) ?_
      rw [hrun,Nat.sub_self,CtL.runM]
      exact rfl
  · simp only [go_sem,TmOK,DM,DMs,CM,CMs,forall_eq,exists_eq_left,Mq,HpOK,LowOK]
    simp [upd,hOf,hpL,CMs_I,CMs_tr,CMs_hdr,CMs_b0,CMs_b1,CM,trC,CMs]
open CtL (In Cd Mc stepM kindsOf topOf fOK inOK endOK codeOK runM atC halt runC)
def ranR (c:Cd) (m:Mm) (r:D) (h:List (Option (List C))):Prop :=
  (∃ (s':Mc) (T':List Ev),r = .tup [.c (.ptr 0 0),.c (.msl 6 2 0 T'.length),DB true]∧h=stB s'++[some (trC T')]∧MOK c s'∧T'.length≤40000∧runC c m=(s'.mem,T',true)) ∨
  (r = .tup [.c (.v (.pointer none)),.c (.v (.slice none 0 0)),DB false]∧h=[]∧runC c m=(⟨[],[]⟩,[],false))
theorem runC_memF {c:Cd} {m:Mm} (h:memOK c.vars c.arrays m=false):runC c m=(⟨[],[]⟩,[],false):=by
  simp [runC,h]
theorem ranI (c:Cd) (m:Mm) (hc:codeOK c=true):DC Tryz.prog 31 [.agg (cdC c),.agg m.cells] [] (ranR c m):=by
  have hmx:=mx_eq
  have hcl:=code_len hc
  have hst:=startI c m hc
  cases hm:memOK c.vars c.arrays m with
  | true =>
    have hml:=memOK_len hm
    rw [show stmR c m=fun r h=>r = .tup [.agg [I64 0,.msl 0 1 0 14,.msl 1 1 0 m.vals.length,.msl 2 1 0 m.arrays.length],DB true]∧h=mcB 0 (List.replicate 14 0) m by funext r h;simp [stmR,hm]] at hst
    have hmf:MemFits (hdC c) m:=by
      have g:=hm
      simp only [memOK,arrOK,vals01,Bool.and_eq_true,decide_eq_true_eq,List.all_eq_true] at g
      obtain ⟨⟨⟨g1,g2⟩,g3⟩,g4⟩:=g
      exact ⟨by simp only [hdC];omega,by simp only [hdC];omega,by simp only [hdC];omega,by simp only [hdC];omega,g3,fun a ha=>⟨by have:=(g4 a ha).1;omega,(g4 a ha).2⟩⟩
    have hM:MOK c ⟨0,List.replicate 14 0,m⟩:=⟨by simp;omega,by simp,by simp,hmf⟩
    have hex:=executeI c hc _ hM
    have hrf:runC c m=match runM c.list 20000 ⟨0,List.replicate 14 0,m⟩ with | some q=>(q.1,q.2,true) | none=>(⟨[],[]⟩,[],false):=by unfold runC;rw [hc,hm];rfl
    generalize hZ:List.replicate 14 (0:Int)=Z at *
    generalize hR:ranR c m=R
    obtain ⟨vs,ar,l⟩:=c
    obtain ⟨va,arr⟩:=m
    unfold stB at hex
    simp only [cdC,ints] at hst hex ⊢
    refine dcZ Tryz.func31 ?_
    simp only [go_sem,Mm.cells]
    iterate 3 ((try (refine drvZ Tryz.func31 ?_;simp only [go_sem,Mm.cells]));((with_reducible and_intros)<;>try exact sd))
    refine XK.callG [] hst ok56 (fun i' x h=>by simp at h) (hbT ()) (fun d h' ⟨_,e⟩=>by subst e;simp) ?_
    rintro _ _ ⟨rfl,rfl⟩ _
    iterate 4 ((try (refine drvZ Tryz.func31 ?_;simp only [go_sem,Mm.cells,renCs_I,renCs_hdr,renCs_b0,renCs_b1]));((with_reducible and_intros)<;>try exact sd))
    refine XK.subQ (r := fun j => if j = 0 then some 704 else if j = 1 then some 448 else if j = 2 then some 449 else if j = 3 then some 450 else if j = 4 then some 451 else if j = 5 then some 452 else if j = 6 then some 1024 else none) (fz := [])
      (tl:=[(7,.c (.ptr 0 0)),(9,.c (.ptr 6 0)),(18,.agg [isI vs,isI ar,.isl 5 (l.map inX)]),(19,.c (.clo 58 [.ptr 6 0]))])
      (hl:=[(0,some [I64 0,.msl 1 1 0 14,.msl 2 1 0 va.length,.msl 3 1 0 arr.length]),(1,some (Z.map I64)),(2,some (va.map I64)),(3,some (hdr 4 5 arr.length)),(4,some (blk0 arr)),(5,some (blk1 arr)),(6,some [.msl 7 2 0 0]),(7,some [])]) ?_ ?_
    · simp [Mq,TmOK,DM,DMs,CM,CMs,HpOK,LowOK,hOf,upd,CMs_I,CMs_hdr,CMs_b0,CMs_b1,isI,kf,inX]
    refine XK.callG [0,1,2,3,4,5,6,7] hex ok57 (hhpG (by simp [HH,upd,hOf,hpL,renCs_I,renCs_hdr,renCs_b0,renCs_b1,renCs,renC,rk0])) (hbT ()) (fun d h' ⟨_,_,_,_,e,_⟩=>by subst e;simp [stB]) ?_
    rintro _ _ ⟨b,s',T',rfl,rfl,hMs,hT,hq⟩ _
    have hrf:(b=true∧runC ⟨vs,ar,l⟩ ⟨va,arr⟩=(s'.mem,T',true))∨(b=false∧runC ⟨vs,ar,l⟩ ⟨va,arr⟩=(⟨[],[]⟩,[],false)):=by
      rw [hrf]
      unfold exQ at hq
      revert hq
      show (match runM l 20000 ⟨0,Z,⟨va,arr⟩⟩ with | some q=>b=true∧s'.mem=q.1∧T'=q.2 | none=>b=false)→(b=true∧(match runM l 20000 ⟨0,Z,⟨va,arr⟩⟩ with | some q=>(q.1,q.2,true) | none=>(⟨[],[]⟩,[],false))=(s'.mem,T',true))∨(b=false∧(match runM l 20000 ⟨0,Z,⟨va,arr⟩⟩ with | some q=>(q.1,q.2,true) | none=>(⟨[],[]⟩,[],false))=(⟨[],[]⟩,[],false))
      generalize runM l 20000 ⟨0,Z,⟨va,arr⟩⟩=o
      cases o with
      | none=>exact fun h => .inr ⟨h,rfl⟩
      | some q=>exact fun ⟨q1,q2,q3⟩ => .inl ⟨q1,by rw [q2,q3]⟩
    cases b with
    | true =>
      replace hrf:=hrf.elim And.right fun h=>absurd h.1 (by simp)
      iterate 3 ((try (refine drvZ Tryz.func31 ?_;simp only [go_sem,stB,renCs_I,renCs_hdr,renCs_b0,renCs_b1,renCs_tr]));((with_reducible and_intros)<;>try exact sd))
      refine RetOb.ofQ (fun j=>if j=6 then some 1216 else if j<6 then some j else none) [] (.tup [.c (.ptr 0 0),.c (.msl 6 2 0 T'.length),DB true]) (stB s'++[some (trC T')]) ?_ (by rw [← hR];exact .inl ⟨s',T',rfl,rfl,hMs,hT,hrf⟩) (by simp [stB])
      simp [stB,enumL,hOf,DM,DMs,CM,CMs,HpOK,LowOK,upd,CMs_I,CMs_tr,CMs_hdr,CMs_b0,CMs_b1]
    | false =>
      replace hrf:=hrf.elim (fun h=>absurd h.1 (by simp)) And.right
      iterate 3 ((try (refine drvZ Tryz.func31 ?_;simp only [go_sem,stB,renCs_I,renCs_hdr,renCs_b0,renCs_b1,renCs_tr]));((with_reducible and_intros)<;>try exact sd))
      refine RetOb.ofQ (fun _=>none) [] (.tup [.c (.v (.pointer none)),.c (.v (.slice none 0 0)),DB false]) [] ?_ (by rw [← hR];exact .inr ⟨rfl,rfl,hrf⟩) (by simp)
      simp [enumL,DM,DMs,CM,CMs,HpOK,LowOK]
  | false =>
    rw [show stmR c m=fun r h=>r = .tup [.agg [I64 0,.v (.slice none 0 0),.v (.slice none 0 0),.v (.slice none 0 0)],DB false]∧h=[] by funext r h;simp [stmR,hm]] at hst
    have hrf:=runC_memF hm
    generalize hR:ranR c m=R
    obtain ⟨vs,ar,l⟩:=c
    obtain ⟨va,arr⟩:=m
    simp only [cdC,ints] at hst ⊢
    refine dcZ Tryz.func31 ?_
    simp only [go_sem,Mm.cells]
    iterate 5 ((try (refine drvZ Tryz.func31 ?_;simp only [go_sem,Mm.cells]));((with_reducible and_intros)<;>try exact sd);(try first | refine XK.p hst ok56 ?_ | refine XK.gp hst ok56 ?_))
    refine RetOb.ofQ (fun _=>none) [] (.tup [.c (.v (.pointer none)),.c (.v (.slice none 0 0)),DB false]) [] ?_ (by rw [← hR];exact .inr ⟨rfl,rfl,hrf⟩) (by simp)
    simp [enumL,DM,DMs,CM,CMs,HpOK,LowOK]
theorem runCodeI (c:Cd) (m:Mm) (hc:codeOK c=true):DC Tryz.prog 8 [.agg (cdC c),.agg m.cells] [] (fun r h=>r = .tup [.agg (runC c m).1.cells,.c (trD (runC c m).2.1),DB (runC c m).2.2]∧h=[]):=by
  have hmx:=mx_eq
  have hcl:=code_len hc
  have hrn:=ranI c m hc
  generalize hR:(fun (r:D) (h:List (Option (List C)))=>r = .tup [.agg (runC c m).1.cells,.c (trD (runC c m).2.1),DB (runC c m).2.2]∧h=[])=R
  unfold ranR at hrn
  obtain ⟨vs,ar,l⟩:=c
  obtain ⟨va,arr⟩:=m
  simp only [cdC,ints] at hrn ⊢
  refine dcZ Tryz.func8 ?_
  simp only [go_sem,Mm.cells]
  iterate 2 ((try (refine drvZ Tryz.func8 ?_;simp only [go_sem,Mm.cells]));((with_reducible and_intros)<;>try exact sd))
  refine XK.callG [] hrn ok31 (fun i' x h=>by simp at h) (hbT ()) (fun d h' e=>by rcases e with ⟨_,_,_,e,_⟩ | ⟨_,e,_⟩<;>subst e<;>simp [stB]) ?_
  rintro _ _ (⟨s',T',rfl,rfl,hMs,hT,hrf⟩ | ⟨rfl,rfl,hrf⟩) _
  · have hl:=hMs.mem
    iterate 4 ((try (refine drvZ Tryz.func8 ?_;simp only [go_sem,stB,renCs_I,renCs_hdr,renCs_b0,renCs_b1,renCs_tr]));((with_reducible and_intros)<;>try exact sd))
    rw [hl.nv,hl.na]
    refine RetOb.run hl ?_ rfl rfl rfl rfl rfl rfl rfl (by decide)
    subst hR
    rw [hrf]
    exact ⟨rfl,rfl⟩
  · iterate 4 ((try (refine drvZ Tryz.func8 ?_;simp only [go_sem]));((with_reducible and_intros)<;>try exact sd))
    refine RetOb.noRun ?_ (.inl rfl)
    subst hR
    rw [hrf]
    exact ⟨rfl,rfl⟩
open CtL (In Cd compP)
theorem runM_len {l : List In} : ∀ (n : Nat) (s : CtL.Mc) (q : Mm × List Ev), CtL.runM l n s = some q → q.2.length ≤ 2 * n
  | 0,s,q,h=>by simp [CtL.runM] at h
  | n+1,s,q,h=>by
    have h2:=step_len (CtL.atC l s.pc) s
    rw [CtL.runM] at h
    split at h
    · cases h;simp only;omega
    · rw [Option.map_eq_some_iff] at h
      obtain ⟨q',h3,rfl⟩:=h
      have:=runM_len n _ q' h3
      simp only [List.length_append]
      omega
theorem runC_len (c:Cd) (m:Mm):(CtL.runC c m).2.1.length≤40000:=by
  unfold CtL.runC
  split
  · split
    · next q e=>exact runM_len _ _ _ e
    · simp
  · simp
open CtL (In Cd linQ linP extM extOK compP)
def secP (p:Pg):Cd × Bool:=if (linP p).2=true then compP (linP p).1 else (⟨[],[],[]⟩,false)
theorem compSecS (p:Pg) (hok:progOK p=true):DC Tryz.prog 43 [.agg p.cells] [] (fun r h=>r = .tup [.agg (cdC (secP p).1),DB (secP p).2]∧h=[]):=by
  have hmx:=mx_eq
  have hli:=linearizeS p hok
  have hcm:=compProgS (linQ p)
  have hlp:linP p=if fineP flowR p=true∧progOK (linQ p)=true then (linQ p,true) else (⟨[],[],[]⟩,false):=rfl
  generalize hR:(fun (r:D) (h:List (Option (List C)))=>r = .tup [.agg (cdC (secP p).1),DB (secP p).2]∧h=[])=R
  unfold secP at hR
  by_cases hc:fineP flowR p=true∧progOK (linQ p)=true
  · rw [if_pos hc] at hlp
    rw [hlp] at hli hR
    have hlq:=prog_len hc.2
    have hcm:=hcm (by omega) (by omega) (by have:=(body_of hc.2).2;omega)
    simp only [if_true] at hR
    generalize compP (linQ p)=Y at *
    clear hlp
    generalize linQ p=q at *
    obtain ⟨⟨cv,ca,cl⟩,cb⟩:=Y
    obtain ⟨vs,ar,bd⟩:=p
    obtain ⟨qv,qa,qb⟩:=q
    simp only [cdC,ints] at hcm hR
    refine dcZ Tryz.func43 ?_
    simp only [go_sem]
    iterate 8 ((try (refine drvZ Tryz.func43 ?_;simp only [go_sem]));((with_reducible and_intros)<;>try exact sd);(try first | refine XK.p hli ok71 ?_ | refine XK.gp hli ok71 ?_ | refine XK.p hcm ok41 ?_ | refine XK.gp hcm ok41 ?_))
    subst hR
    refine RetOb.ofQ (fun _=>none) [] (.tup [.agg [.isl 1 (cv.map fun n=>[I64 n]),.isl 1 (ca.map fun n=>[I64 n]),.isl 5 (cl.map inX)],DB cb]) [] ?_ ⟨rfl,rfl⟩ (by simp)
    simp [enumL,DM,DMs,CM,CMs,HpOK,LowOK]
  · rw [if_neg hc] at hlp
    rw [hlp] at hli hR
    obtain ⟨vs,ar,bd⟩:=p
    refine dcZ Tryz.func43 ?_
    simp only [go_sem]
    iterate 6 ((try (refine drvZ Tryz.func43 ?_;simp only [go_sem,List.map_nil]));((with_reducible and_intros)<;>try exact sd);(try first | refine XK.p hli ok71 ?_ | refine XK.gp hli ok71 ?_))
    exact RetOb.cd0 (by rw [← hR];exact ⟨rfl,rfl⟩)
end Go.Proofs.YtoakidkcppinpaaGreat.CtD
namespace Go.Proofs.YtoakidkcppinpaaGreat.CtL
variable [Go.CT.Yn]
open Go Go.CT CtF CtR
end Go.Proofs.YtoakidkcppinpaaGreat.CtL
namespace Go.Proofs.YtoakidkcppinpaaGreat.CtD
open Go Go.CT CtF CtR
variable [Yn]
def SmN (m:Mm):Prop:=m.vals.length≤14∧m.arrays.length≤2∧∀ a ∈ m.arrays,a.length≤4
def Bnt (m m':Mm):Prop:=∀ vs ar:List Int,memOK vs ar m=true→memOK vs ar m'=true→m'=m
theorem Bnt.refl (m:Mm):Bnt m m:=fun _ _ _ _=>rfl
theorem memOK_parts {vs ar:List Int} {m:Mm} (h:memOK vs ar m=true):m.vals.length=vs.length∧m.arrays.length=ar.length∧(∀ x ∈ m.vals,0≤x∧x≤255)∧∀ a ∈ m.arrays,a.length=4:=by
  have h2:=memOK_len h
  refine ⟨h2.1,h2.2.1,?_,h2.2.2⟩
  simp only [memOK,Bool.and_eq_true,vals01] at h
  have:=h.1.2
  simp at this
  exact this
theorem Bnt.long {va:List Int} {arr:List (List Int)} (x:Int):Bnt ⟨va,arr⟩ ⟨va++[x],arr⟩:=fun vs ar h h'=>by
  have h1:=(memOK_parts h).1
  have h2:=(memOK_parts h').1
  simp at h1 h2
  omega
theorem Bnt.bad {x w:Int} {r:List Int} {arr:List (List Int)} (hw:w ∈ ([-1,256,9223372036854775807]:List Int)):Bnt ⟨x :: r,arr⟩ ⟨w :: r,arr⟩:=fun vs ar h h'=>by
  have h2:=(memOK_parts h').2.2.1 w (by simp)
  simp at hw
  omega
theorem Bnt.short {va:List Int} {arr arr':List (List Int)} {a:List Int} (h3:a.length=3):Bnt ⟨va,arr⟩ ⟨va,a :: arr'⟩:=fun vs ar h h'=>by
  have h2:=(memOK_parts h').2.2.2 a (by simp)
  omega
theorem Bnt.none {m:Mm}:Bnt m ⟨[],[]⟩:=fun vs ar h h'=>by
  have h1:=memOK_parts h
  have h2:=memOK_parts h'
  obtain ⟨va,arr⟩:=m
  simp at h1 h2
  have e1:va=[]:=List.length_eq_zero_iff.1 (by omega)
  have e2:arr=[]:=List.length_eq_zero_iff.1 (by omega)
  rw [e1,e2]
def bnR (bs:List Int) (n:Nat) (m0:Mm) (r:D) (h:List (Option (List C))):Prop:=∃ m:Mm,r = .agg m.cells∧SmN m∧Bnt m0 m∧rdL bs n 5 h
theorem l3BendB (bs:List Int) (n:Nat) (m:Mm) (hb:Fits .u8 bs) (hl:bs.length≤2000) (hn:n≤274877906944) (hv:m.vals.length≤13) (ha:m.arrays.length≤2) (h4:∀ a ∈ m.arrays,a.length=4):DC Tryz.prog 21 [.c (.ptr 0 0),.agg m.cells] [some (rdr bs n)] (bnR bs n m):=by
  have hmx:=mx_eq
  have hcp:=l3Copy m (by omega) ha h4
  generalize hR:bnR bs n m=R
  unfold memB at hcp
  obtain ⟨va,arr⟩:=m
  have hv:va.length≤13:=hv
  have ha:arr.length≤2:=ha
  have h4:∀ a ∈ arr,a.length=4:=h4
  have hfin:∀ (k0 nv na:Nat) (n':Nat) (va':List Int) (hp:Hp),va'.length≤14→Bnt ⟨va,arr⟩ ⟨va',arr⟩→n≤n'→n'≤n+5→hp 0=some (some (rdr bs n'))→hp k0=some (some (va'.map I64))→hp 194=some (some (hdr 195 196 arr.length))→hp 195=some (some (blk0 arr))→hp 196=some (some (blk1 arr))→nv=va'.length→na=arr.length →
      (k0 ≠ 194∧k0 ≠ 195∧k0 ≠ 196∧0 ≠ k0)→RetOb 1 R (.agg [.msl k0 1 0 nv,.msl 194 1 0 na]) hp:=fun k0 nv na n' va' hp g1 gb g2 g3 g4 g5 g6 g7 g8 g9 g10 ⟨e1,e2,e3,e4⟩ =>
    RetOb.memK (m := ⟨va', arr⟩) (k2 := 195) (k3 := 196) ha (by rw [← hR]; exact ⟨⟨va', arr⟩, rfl, ⟨g1, ha, fun a h => by have := h4 a h; omega⟩, gb, n', g2, g3, rfl⟩) (rdr_kf bs n') g4 g5 (by rw [g6, hdr_hdA _ _ _ ha h4]) g7 g8 g9 g10
      ⟨e1,e2,e3,by decide,by decide,by decide,e4,by decide,by decide,by decide⟩
  refine dcZ Tryz.func21 ?_
  simp only [go_sem,Mm.cells,rdr]
  ((try (refine drvZ Tryz.func21 ?_;simp only [go_sem,rdr]));((with_reducible and_intros)<;>try exact sd))
  refine XK.callG [] hcp ok46 (fun i' x h=>by simp at h) (hbT ()) (fun d h' ⟨_,e⟩=>by subst e;simp) ?_
  rintro _ _ ⟨rfl,rfl⟩ _
  iterate 3 ((try (refine drvZ Tryz.func21 ?_;simp only [go_sem,renCs_I,renCs_hdr,renCs_b0,renCs_b1,rdr]));((with_reducible and_intros)<;>try exact sd))
  refine XK.callG [0] (pick bs n 60 hb hl (by omega) (by simp only [InK];omega)) ok16 (hhp_one rfl) (hbT ()) (fun d h' ⟨v,_,_,e⟩=>by subst e;simp) ?_
  rintro _ _ ⟨v,rfl,hpv,rfl⟩ _
  have hpv:v=0∨v=1∨v=2∨v=3∨(v ≠ 0∧v ≠ 1∧v ≠ 2∧v ≠ 3):=by omega
  rcases hpv with rfl | rfl | rfl | rfl | ⟨h0,h1,h2,h3⟩
  · iterate 4 ((try (refine drvZ Tryz.func21 ?_;simp only [go_sem,rdr]));((with_reducible and_intros)<;>try exact sd))
    exact hfin 833 _ _ (n+1) (va++[0]) _ (by simp;omega) (Bnt.long _) (by omega) (by omega) rfl (by rw [i_snoc];rfl) rfl rfl rfl (by simp) rfl (by decide)
  · cases va with
    | nil =>
      have hz:((0:Int)<0)=False:=eq_false (by omega)
      iterate 5 ((try (refine drvZ Tryz.func21 ?_;simp only [go_sem,rdr,Int.natCast_zero,hz]));((with_reducible and_intros)<;>try exact sd))
      exact hfin 193 _ _ (n+1) [] _ (by simp) (Bnt.refl _) (by omega) (by omega) rfl rfl rfl rfl rfl rfl rfl (by decide)
    | cons x r =>
      have hz:((0:Int)<(r.length:Int)+1)=True:=eq_true (by omega)
      have hv:r.length+1≤13:=hv
      iterate 5 ((try (refine drvZ Tryz.func21 ?_;simp only [go_sem,rdr,hz]));((with_reducible and_intros)<;>try exact sd))
      refine XK.callG [0,1217] (numO bs (n+1) [-1,256,9223372036854775807] hb hl (by omega) (by decide) (by decide)) ok20 (hhp2 rfl rfl) (hbT ()) (fun d h' ⟨_,_,_,e⟩=>by subst e;simp) ?_ (fun _=>⟨by kernel_rfl,_,_,⟨-1,rfl,by simp,rfl⟩,by simp⟩)
      rintro _ _ ⟨w,rfl,hw,rfl⟩ _
      iterate 5 ((try (refine drvZ Tryz.func21 ?_;simp only [go_sem,rdr,hz]));((with_reducible and_intros)<;>try exact sd))
      exact hfin 193 _ _ (n+2) (w :: r) _ (by simp;omega) (Bnt.bad hw) (by omega) (by omega) rfl rfl rfl rfl rfl rfl rfl (by decide)
  · match arr,ha,h4 with
    | [],ha,h4 =>
      have hz:((0:Int)<0)=False:=eq_false (by omega)
      iterate 6 ((try (refine drvZ Tryz.func21 ?_;simp only [go_sem,rdr,Int.natCast_zero,hz]));((with_reducible and_intros)<;>try exact sd))
      exact hfin 193 _ _ (n+1) va _ (by omega) (Bnt.refl _) (by omega) (by omega) rfl rfl rfl rfl rfl rfl rfl (by decide)
    | a :: rest,ha,h4 =>
      have hz:((0:Int)<(rest.length:Int)+1)=True:=eq_true (by omega)
      have ha4:a.length=4:=h4 a (by simp)
      have hrl:rest.length+1≤2:=ha
      iterate 6 ((try (refine drvZ Tryz.func21 ?_;simp only [go_sem,rdr,hz,hdr]));((with_reducible and_intros)<;>try exact sd))
      have hsp:a.map I64=(a.take 3).map I64++(a.drop 3).map I64:=by rw [← List.map_append,List.take_append_drop]
      refine RetOb.shrink (k:=195) (cs:=(a.take 3).map I64) (ds:=(a.drop 3).map I64) ?_ ?_
      · rw [← hsp];rfl
      have ha3:(a.take 3).length=3:=by rw [List.length_take];omega
      match rest,hrl with
      | [],_ =>
        exact RetOb.memK (m:=⟨va,[a.take 3]⟩) (k0:=193) (k1:=194) (k2:=195) (k3:=196) (rc:=rdr bs ((n+1:Nat):Int)) (by simp) (by rw [← hR];exact ⟨⟨va,[a.take 3]⟩,rfl,⟨by simp only;omega,by simp,by simp;omega⟩,Bnt.short ha3,n+1,by omega,by omega,rfl⟩) (rdr_kf _ _) rfl rfl (by simp [upd,hdA,ha3]) rfl rfl rfl rfl (by decide)
      | [b],_ =>
        have hb4:b.length=4:=h4 b (by simp)
        exact RetOb.memK (m:=⟨va,[a.take 3,b]⟩) (k0:=193) (k1:=194) (k2:=195) (k3:=196) (rc:=rdr bs ((n+1:Nat):Int)) (by simp) (by rw [← hR];exact ⟨⟨va,[a.take 3,b]⟩,rfl,⟨by simp only;omega,by simp,by simp [hb4];omega⟩,Bnt.short ha3,n+1,by omega,by omega,rfl⟩) (rdr_kf _ _) rfl rfl (by simp [upd,hdA,ha3,hb4]) rfl rfl rfl rfl (by decide)
  · iterate 6 ((try (refine drvZ Tryz.func21 ?_;simp only [go_sem,rdr]));((with_reducible and_intros)<;>try exact sd))
    refine RetOb.ofQ (fun j=>if j=0 then some 0 else none) [] (.agg (Mm.cells ⟨[],[]⟩)) [some (rdr bs ((n+1:Nat):Int))] ?_ ?_ (by simp)
    · simp [enumL,hOf,DM,DMs,CM,CMs,HpOK,LowOK,upd,rdr,Mm.cells,isI,kf]
    · rw [← hR];exact ⟨⟨[],[]⟩,rfl,⟨by simp,by simp,by simp⟩,Bnt.none,n+1,by omega,by omega,rfl⟩
  · have e0:(v == 0)=false:=by simp [h0]
    have e1:(v == 1)=false:=by simp [h1]
    have e2:(v == 2)=false:=by simp [h2]
    have e3:(v == 3)=false:=by simp [h3]
    iterate 6 ((try (refine drvZ Tryz.func21 ?_;simp only [go_sem,rdr,h0,h1,h2,h3,e0,e1,e2,e3]));((with_reducible and_intros)<;>try exact sd))
    exact hfin 193 _ _ (n+1) va _ (by omega) (Bnt.refl _) (by omega) (by omega) rfl rfl rfl rfl rfl rfl rfl (by decide)
structure MemG (p : Pg) (m : Mm) : Prop where
  nv:m.vals.length=p.vars.length
  na:m.arrays.length=p.arrays.length
  val:∀ x ∈ m.vals,0≤x∧x≤255
  arr:∀ a ∈ m.arrays,a.length=4∧∀ x ∈ a,0≤x∧x≤255
def mgR (bs:List Int) (n:Nat) (p:Pg) (r:D) (h:List (Option (List C))):Prop:=∃ m:Mm,r = .agg m.cells∧MemG p m∧rdL bs n 30 h
theorem l3MemoryG (bs:List Int) (n:Nat) (p:Pg) (hb:Fits .u8 bs) (hl:bs.length≤2000) (hn:n≤274877906944) (hp:p.vars.length≤13) (hp2:p.arrays.length≤2):DC Tryz.prog 19 [.c (.ptr 0 0),.agg p.cells] [some (rdr bs n)] (mgR bs n p):=by
  have hmx:=mx_eq
  have hval:=fun n h=>l3Value bs n hb hl h
  generalize hR:mgR bs n p=R
  obtain ⟨vs,ar,bd⟩:=p
  have hp:vs.length≤13:=hp
  have hp2:ar.length≤2:=hp2
  refine dcZ Tryz.func19 ?_
  simp only [go_sem,rdr]
  ((try (refine drvZ Tryz.func19 ?_;simp only [go_sem,rdr]));((with_reducible and_intros)<;>try exact sd))
  refine Go.loopQ (fun x : Nat × List Int => [(0, .c (.ptr 0 0)), (3, .c (.ptr 1 0)), (4, .c (.ptr 65 0)), (5, .c (.ptr 66 0)), (6, DI .i64 x.2.length)])
    (fun x=>[(0,some (rdr bs x.1)),(1,some (Pg.cells ⟨vs,ar,bd⟩)),(65,some [.v (.slice none 0 0),.v (.slice none 0 0)]),(66,some [.msl 67 1 0 x.2.length,.v (.slice none 0 0)]),(67,some (x.2.map I64))])
    4096 (fun x=>x.2.length≤vs.length∧n≤x.1∧x.1≤n+x.2.length∧∀ y ∈ x.2,0≤y∧y≤255) (fun x=>vs.length - x.2.length) ?_ (n,[]) (fun j=>if j=66 then some 193 else if j=67 then none else some j) [] _ (by simp) ?_
  · rintro ⟨pos,l⟩ ⟨hi1,hi2,hi3,hi4⟩ again
    simp only at hi1 hi2 hi3 hi4
    rcases Nat.lt_or_ge l.length vs.length with hlt | hge
    · refine drvL Tryz.func19 ?_
      simp only [go_sem,rdr,hlt]
      iterate 3 ((try (refine drvZ Tryz.func19 ?_;simp only [go_sem,rdr]));((with_reducible and_intros)<;>try exact sd))
      refine XK.callG [0] (hval pos (by omega)) ok45 (hhp_one rfl) (hbT ()) (fun d h' ⟨_,_,_,_,_,_,e⟩=>by subst e;simp) ?_ (fun _=>⟨by kernel_rfl,_,_,⟨0,rfl,by omega,pos,by omega,by omega,rfl⟩,by simp⟩)
      rintro _ _ ⟨v,rfl,hv,pos',hp1,hp3,rfl⟩ _
      iterate 4 ((try (refine drvZ Tryz.func19 ?_;simp only [go_sem,rdr]));((with_reducible and_intros)<;>try exact sd))
      refine again (pos',l++[v]) (fun j=>if j=67 then some 4736 else some j) [] _ ⟨by simp;omega,by omega,by simp;omega,rI l v hi4 hv⟩ (by simp;omega) ?_
      simp only [go_sem,TmOK,DM,DMs,CM,CMs,forall_eq,exists_eq_left,Mq,HpOK,LowOK,rdr,i_snoc]
      simp
      exact CMs.kf (kf_app (kf_I _) (by simp [kf]))
    · have hnl:¬ l.length<vs.length:=by omega
      refine drvL Tryz.func19 ?_
      simp only [go_sem,rdr,hnl]
      iterate 3 ((try (refine drvZ Tryz.func19 ?_;simp only [go_sem,rdr]));((with_reducible and_intros)<;>try exact sd))
      refine Go.loopQ (fun x : Nat × List (List Int) => [(0, .c (.ptr 0 0)), (3, .c (.ptr 1 0)), (4, .c (.ptr 65 0)), (5, .c (.ptr 66 0)), (7, DI .i64 x.2.length)])
        (fun x=>[(0,some (rdr bs x.1)),(1,some (Pg.cells ⟨vs,ar,bd⟩)),(65,some [.v (.slice none 0 0),.v (.slice none 0 0)]),(66,some [isI l,.msl 68 1 0 x.2.length]),(68,some (x.2.map isI))])
        8192 (fun x=>x.2.length≤ar.length∧n≤x.1∧x.1≤n+l.length+4 * x.2.length∧∀ a ∈ x.2,a.length=4∧∀ y ∈ a,0≤y∧y≤255) (fun x=>ar.length - x.2.length) ?_ (pos,[]) (fun j=>if j=68 then none else some j) [67] _ (by simp;omega) ?_
      · clear again
        rintro ⟨pos,arrs⟩ ⟨hj1,hj2,hj3,hj4⟩ again
        simp only at hj1 hj2 hj3 hj4
        rcases Nat.lt_or_ge arrs.length ar.length with hlt | hge2
        · refine drvL Tryz.func19 ?_
          simp only [go_sem,rdr,hlt]
          iterate 3 ((try (refine drvZ Tryz.func19 ?_;simp only [go_sem,rdr]));((with_reducible and_intros)<;>try exact sd))
          refine Go.loopQ (fun x : Nat × List Int => [(0, .c (.ptr 0 0)), (3, .c (.ptr 1 0)), (4, .c (.ptr 65 0)), (5, .c (.ptr 66 0)), (7, DI .i64 arrs.length), (8, .c (.msl 69 1 0 x.2.length)), (9, DI .i64 x.2.length)])
            (fun x=>[(0,some (rdr bs x.1)),(1,some (Pg.cells ⟨vs,ar,bd⟩)),(65,some [.v (.slice none 0 0),.v (.slice none 0 0)]),(66,some [isI l,.msl 68 1 0 arrs.length]),(68,some (arrs.map isI)),(69,some (x.2.map I64))])
            16384 (fun x=>x.2.length≤4∧pos≤x.1∧x.1≤pos+x.2.length∧∀ y ∈ x.2,0≤y∧y≤255) (fun x=>4 - x.2.length) ?_ (pos,[]) (fun j=>if j=69 then some 8512 else some j) [] _ (by simp) ?_
          · rintro ⟨ps,a⟩ ⟨hk1,hk2,hk3,hk4⟩ again2
            simp only at hk1 hk2 hk3 hk4
            rcases Nat.lt_or_ge a.length 4 with hlt2 | hge3
            · have h4:((a.length:Int)<4)=True:=eq_true (by omega)
              refine drvL Tryz.func19 ?_
              simp only [go_sem,rdr,h4]
              iterate 3 ((try (refine drvZ Tryz.func19 ?_;simp only [go_sem,rdr]));((with_reducible and_intros)<;>try exact sd))
              refine XK.callG [0] (hval ps (by omega)) ok45 (hhp_one rfl) (hbT ()) (fun d h' ⟨_,_,_,_,_,_,e⟩=>by subst e;simp) ?_
              rintro _ _ ⟨v,rfl,hv,ps',hp1,hp3,rfl⟩ _
              iterate 4 ((try (refine drvZ Tryz.func19 ?_;simp only [go_sem,rdr]));((with_reducible and_intros)<;>try exact sd))
              refine again2 (ps',a++[v]) (fun j=>if j=69 then some 16768 else some j) [] _ ⟨by simp;omega,by omega,by simp;omega,rI a v hk4 hv⟩ (by simp;omega) ?_
              simp only [go_sem,TmOK,DM,DMs,CM,CMs,forall_eq,exists_eq_left,Mq,HpOK,LowOK,rdr,i_snoc]
              simp
              exact ⟨CMs.kf (kf_A _),CMs.kf (kf_app (kf_I _) (by simp [kf]))⟩
            · have h4:((a.length:Int)<4)=False:=eq_false (by omega)
              have ha4:a.length=4:=by omega
              refine drv_sound (n:=3) (rs:=_) Tryz.func19 mo rfl none _ _ ?_
              simp only [go_sem,rdr]
              refine XK.freeze 8 69 1 a.length (a.map fun n=>[I64 n]) ?_ (by rw [flat_I];rfl) rfl (by simp) (by simp) (by simp [kf])
              iterate 6 ((try (refine drvZ Tryz.func19 ?_;simp only [go_sem,rdr,h4]));((with_reducible and_intros)<;>try exact sd))
              refine again (ps,arrs++[a]) (fun j=>if j=68 then some 16768 else some j) [] _ ⟨by simp;omega,by omega,by simp;omega,?_⟩ (by simp;omega) ?_
              · intro b hb2
                rcases List.mem_append.1 hb2 with h3 | h3
                · exact hj4 b h3
                · rw [List.mem_singleton.1 h3];exact ⟨ha4,hk4⟩
              · simp only [go_sem,TmOK,DM,DMs,CM,CMs,forall_eq,exists_eq_left,Mq,HpOK,LowOK,rdr,a_snoc]
                simp
                exact CMs.kf (kf_app (kf_A _) (by simp [kf]))
          · simp only [go_sem,TmOK,DM,DMs,CM,CMs,forall_eq,exists_eq_left,Mq,HpOK,LowOK,rdr]
            simp [CMs]
            exact CMs.kf (kf_A _)
        · have hnl:¬ arrs.length<ar.length:=by omega
          refine drvL Tryz.func19 ?_
          simp only [go_sem,rdr,hnl]
          iterate 3 ((try (refine drvZ Tryz.func19 ?_;simp only [go_sem,rdr]));((with_reducible and_intros)<;>try exact sd))
          refine RetOb.ofQ (fun j=>if j=0 then some 0 else none) [68] (.agg (Mm.cells ⟨l,arrs⟩)) [some (rdr bs pos)] ?_ ?_ (by simp)
          · simp [enumL,hOf,DM,DMs,CM,CMs,HpOK,LowOK,upd,rdr,Mm.cells,isI,hdF,kf]
            exact (flat1 isI arrs).symm
          · rw [← hR];exact ⟨⟨l,arrs⟩,rfl,⟨by simp only;omega,by simp only;omega,hi4,hj4⟩,pos,by omega,by omega,rfl⟩
      · simp only [go_sem,TmOK,DM,DMs,CM,CMs,forall_eq,exists_eq_left,Mq,HpOK,LowOK,rdr]
        simp [CMs,kf,flat_I']
  · simp only [go_sem,TmOK,DM,DMs,CM,CMs,forall_eq,exists_eq_left,Mq,HpOK,LowOK,rdr]
    simp [CMs]
end Go.Proofs.YtoakidkcppinpaaGreat.CtD
