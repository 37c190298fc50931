/- Contracts of functions of the program, one behind the other, as plain data: what each call returns and which blocks it leaves. -/
import Derived.Test.YtddanjifhdaebaaHFacts
import Derived.Test.YtddanjifhdaebaaHAl
import Derived.Test.YtddanjifhdaebaaHAm
import Derived.Test.YtddanjifhdaebaaHAn
import Derived.Test.YtddanjifhdaebaaHAo
import Derived.Test.YtddanjifhdaebaaHAp
import Derived.Test.YtddanjifhdaebaaHAq
import Derived.Test.YtddanjifhdaebaaHAi
set_option linter.unusedVariables false
set_option linter.unusedSimpArgs false
set_option linter.unusedSectionVars false
set_option maxHeartbeats 16000000
set_option maxRecDepth 100000
namespace Go.Proofs.Ytddanjifhdaebaa.CtR
open Go Go.CT CtF
variable [Yn]
theorem runSpec (p : Pg) : ∀ (d : Nat) (m : Mm) (l : List St1) (tr : List Ev), MemFits p m → (∀ s ∈ l, stmtOK p d s = true) → tr.length + wt d * lsize d l ≤ 1073741824 → DC Try.prog 117 [.agg [.msl 0 1 0 p.vars.length, .msl 1 1 0 p.arrays.length], .c (.isl 11 (St1.cellsL l)), .c (.msl 4 2 0 tr.length)]
      [some (m.vals.map I64),some (hdr 2 3 p.arrays.length),some (blk0 m.arrays),some (blk1 m.arrays),some (trC tr)] (runR p d m l tr)
  | 0,m,l,tr,hm,hok,h=>runOf p 0 (fun d' e=>by omega) m l tr hm hok h
  | d+1,m,l,tr,hm,hok,h=>runOf p (d+1) (fun d' e=>by
      obtain rfl:d=d':=by omega
      exact runSpec p d) m l tr hm hok h
theorem runImpl (p : Pg) : ∀ (d : Nat) (m : Mm) (l : List St1) (tr : List Ev), MemFits p m → (∀ s ∈ l, stmtOK p d s = true) → tr.length + wt d * lsize d l ≤ 1073741824 → DC Try.prog 121 [.c (.ptr 0 0), .c (.isl 11 (St1.cellsL l))]
      [some [.msl 2 1 0 p.vars.length,.msl 3 1 0 p.arrays.length,.msl 1 2 0 tr.length],some (trC tr),some (m.vals.map I64),some (hdr 4 5 p.arrays.length),some (blk0 m.arrays),some (blk1 m.arrays)] (fun r h=>r = .tup []∧h=stP' p (runL d m l).1 (tr++(runL d m l).2))
  | 0,m,l,tr,hm,hok,h=>runIOf p 0 (fun d' e=>by omega) m l tr hm hok h
  | d+1,m,l,tr,hm,hok,h=>runIOf p (d+1) (fun d' e=>by
      obtain rfl:d=d':=by omega
      exact runImpl p d) m l tr hm hok h
theorem memFits_of {p:Pg} {m:Mm} (h:(progOK p && memOK p.vars p.arrays m)=true):MemFits p m:=by
  simp only [progOK,memOK,headsOK,vals01,arrOK,Bool.and_eq_true,decide_eq_true_eq,List.all_eq_true] at h
  obtain ⟨⟨⟨⟨⟨⟨⟨h1,h2⟩,h3⟩,_⟩,_⟩,_⟩,_⟩,⟨⟨g1,g2⟩,g3⟩,g4⟩:=h
  exact ⟨by omega,by omega,by omega,by omega,g3,fun a ha=>⟨by have:=(g4 a ha).1;omega,(g4 a ha).2⟩⟩
theorem body_of {p:Pg} (h:progOK p=true):(∀ s ∈ p.body,stmtOK p 5 s=true)∧lsize 5 p.body≤60:=by
  simp only [progOK,Bool.and_eq_true,decide_eq_true_eq,List.all_eq_true] at h
  exact ⟨h.1.2,by omega⟩
theorem wt5:wt 5=4860:=by decide
def runP (p:Pg) (m:Mm):Mm × List Ev × Bool:=if progOK p && memOK p.vars p.arrays m then ((runL 5 m p.body).1,(runL 5 m p.body).2,true) else (⟨[],[]⟩,[],false)
def trD (tr:List Ev):C := .isl 2 (tr.map Ev.cells)
theorem RetOb.step {m : Nat} {R : D → List (Option (List C)) → Prop} {d : D} {hp : Hp} (r : Nat → Option Nat) (fz : List Nat) (d' : D) (hl : List (Nat × Option (List C)))
    (hM:DM (hOf hl) r hp fz d' d∧HpOK (hOf hl) r hp fz hl∧LowOK r (hOf hl) m∧((hl.filterMap fun p=>p.2.map fun _=>p.1).filterMap r).Nodup) (hn:RetOb m R d' (hOf hl)):RetOb m R d hp:=fun I w s v H hv=>by
  have h:Mq m r fz [] hl ⟨fun _=>none,hp,0⟩:=⟨trivial,hM.2.1,hM.2.2.1,hM.2.2.2⟩
  obtain ⟨H',E'⟩:=h.subH.sim H
  obtain ⟨I',s',d2,h2,g1,g2,g3,g4,g5⟩:=hn _ w _ v H' (DM.rd H d' d hM.1 hv)
  exact ⟨I',s',d2,h2,g1,g2,g3,E'.trans g4,g5⟩
theorem RetOb.run {R : D → List (Option (List C)) → Prop} {p : Pg} {m : Mm} {tr : List Ev} {ok : Bool} {hp : Hp} {k0 k1 k2 k3 kt n : Nat} {cs : List C} (hm : MemFits p m) (hR : R (.tup [.agg m.cells, .c (trD tr), DB ok]) [])
    (h0:hp k0=some (some (m.vals.map I64))) (h1:hp k1=some (some (hdr k2 k3 p.arrays.length))) (h2:hp k2=some (some (blk0 m.arrays))) (h3:hp k3=some (some (blk1 m.arrays))) (ht:hp kt=some (some cs)) (hcs:cs=trC tr) (hn:n=tr.length)
    (hne:k0 ≠ k1∧k0 ≠ k2∧k0 ≠ k3∧k1 ≠ k2∧k1 ≠ k3∧k2 ≠ k3∧kt ≠ k0∧kt ≠ k1∧kt ≠ k2∧kt ≠ k3):RetOb 0 R (.tup [.agg [.msl k0 1 0 p.vars.length,.msl k1 1 0 p.arrays.length],.c (.msl kt 2 0 n),DB ok]) hp:=by
  subst hcs hn
  obtain ⟨va,arr⟩:=m
  have hnv:va.length=p.vars.length:=hm.nv
  have hna:arr.length=p.arrays.length:=hm.na
  have hna2:=hm.na2
  have h4:∀ a ∈ arr,a.length=4:=fun a ha=>(hm.arr a ha).1
  obtain ⟨n01,n02,n03,n12,n13,n23,nt0,nt1,nt2,nt3⟩:=hne
  rw [← hnv,← hna]
  rw [← hna] at h1 hna2
  refine RetOb.step (fun j=>if j=0 then some k0 else if j=1 then some k1 else if j=2 then some kt else none) [k2,k3] (.tup [.agg [.msl 0 1 0 va.length,.msl 1 1 0 arr.length],.c (.msl 2 2 0 tr.length),DB ok]) [(0,some (va.map I64)),(1,some (arr.map isI)),(2,some (trC tr))] ?_ ?_
  · have e3:∀ a:List Int,(a.map fun n=>[C.v (.int .i64 n)]).flatten=a.map I64:=fun a=>flat1 _ a
    match arr,hna2,h4,h1,h2,h3 with
    | [],_,h4,h1,h2,h3=>simp [DM,DMs,CM,CMs,HpOK,LowOK,hOf,upd,h0,ht,CMs_I,CMs_tr,h1,hdr,n01,n02,n03,n12,n13,n23,nt0,nt1,nt2,nt3,Ne.symm n01,Ne.symm nt0,Ne.symm nt1,Ne.symm n23]
    | [a],_,h4,h1,h2,h3 =>
      have ha:=h4 a (by simp)
      simp [DM,DMs,CM,CMs,HpOK,LowOK,hOf,upd,h0,ht,CMs_I,CMs_tr,h1,h2,hdr,n01,n02,n03,n12,n13,n23,nt0,nt1,nt2,nt3,Ne.symm n01,Ne.symm nt0,Ne.symm nt1,Ne.symm n23,e3,isI,ha,blk0,kf]
    | [a,b],_,h4,h1,h2,h3 =>
      have ha:=h4 a (by simp)
      have hb:=h4 b (by simp)
      simp [DM,DMs,CM,CMs,HpOK,LowOK,hOf,upd,h0,ht,CMs_I,CMs_tr,h1,h2,h3,hdr,n01,n02,n03,n12,n13,n23,nt0,nt1,nt2,nt3,Ne.symm n01,Ne.symm nt0,Ne.symm nt1,Ne.symm n23,e3,isI,ha,hb,blk0,blk1,kf]
  · refine RetOb.ofQ (fun _=>none) [0,1,2] _ [] ⟨?_,trivial,trivial,by simp [enumL]⟩ hR (Nat.zero_le _)
    have e4:∀ l:List (List Int),(l.map fun a=>[C.isl 1 (a.map fun n=>[I64 n])]).flatten=l.map isI:=fun l=>flat1 _ l
    have e5:(tr.map Ev.cells).flatten=trC tr:=rfl
    simp [DM,DMs,CM,CMs,hOf,upd,Mm.cells,isI,trD,flat_I,kf,e5]
    exact ⟨(flat1 isI arr).symm,fun a _=>rfl,fun a _ c hc=>by
      simp only [Ev.cells,List.mem_cons,List.not_mem_nil,or_false] at hc
      rcases hc with rfl | rfl<;>rfl⟩
def roR (p:Pg) (m:Mm) (tr:List Ev) (r:D) (h:List (Option (List C))):Prop:=r = .tup [.agg [.msl 0 1 0 p.vars.length,.msl 1 1 0 p.arrays.length],.c (.msl 4 2 0 tr.length),DB true] ∧
  h=[some (m.vals.map I64),some (hdr 2 3 p.arrays.length),some (blk0 m.arrays),some (blk1 m.arrays),some (trC tr)]
theorem RetOb.runO {p : Pg} {m : Mm} {tr : List Ev} {hp : Hp} {k0 k1 k2 k3 kt n : Nat} {cs : List C}
    (h0:hp k0=some (some (m.vals.map I64))) (h1:hp k1=some (some (hdr k2 k3 p.arrays.length))) (h2:hp k2=some (some (blk0 m.arrays))) (h3:hp k3=some (some (blk1 m.arrays))) (ht:hp kt=some (some cs)) (hcs:cs=trC tr) (hn:n=tr.length)
    (ha:p.arrays.length≤2) (hne:k0 ≠ k1∧k0 ≠ k2∧k0 ≠ k3∧k1 ≠ k2∧k1 ≠ k3∧k2 ≠ k3∧kt ≠ k0∧kt ≠ k1∧kt ≠ k2∧kt ≠ k3):RetOb 0 (roR p m tr) (.tup [.agg [.msl k0 1 0 p.vars.length,.msl k1 1 0 p.arrays.length],.c (.msl kt 2 0 n),DB true]) hp:=by
  subst hcs hn
  obtain ⟨n01,n02,n03,n12,n13,n23,nt0,nt1,nt2,nt3⟩:=hne
  refine RetOb.ofQ (fun j => if j = 0 then some k0 else if j = 1 then some k1 else if j = 2 then some k2 else if j = 3 then some k3 else if j = 4 then some kt else none) [] _
    [some (m.vals.map I64),some (hdr 2 3 p.arrays.length),some (blk0 m.arrays),some (blk1 m.arrays),some (trC tr)] ?_ ⟨rfl,rfl⟩ (by simp)
  have hna:p.arrays.length=0∨p.arrays.length=1∨p.arrays.length=2:=by omega
  generalize p.arrays.length=na at *
  rcases hna with rfl | rfl | rfl <;>
    simp [enumL,DM,DMs,CM,CMs,HpOK,LowOK,hOf,upd,h0,h1,h2,h3,ht,CMs_I,CMs_tr,CMs_b0,CMs_b1,hdr,n01,n02,n03,n12,n13,n23,nt0,nt1,nt2,nt3,Ne.symm n01,Ne.symm n02,Ne.symm n03,Ne.symm n12,Ne.symm n13,Ne.symm n23,Ne.symm nt0,Ne.symm nt1,Ne.symm nt2,Ne.symm nt3]
theorem runP_false {p:Pg} {m:Mm} (h:(progOK p && memOK p.vars p.arrays m)=false):runP p m=(⟨[],[]⟩,[],false):=by unfold runP;rw [h];rfl
theorem runP_true {p:Pg} {m:Mm} (h:(progOK p && memOK p.vars p.arrays m)=true):runP p m=((runL 5 m p.body).1,(runL 5 m p.body).2,true):=by unfold runP;rw [h];rfl
theorem RetOb.noRun {R:D→List (Option (List C))→Prop} {hp:Hp} {c:C} (hR:R (.tup [.agg (Mm.cells ⟨[],[]⟩),.c (trD []),DB false]) []) (hc:c = .v (.slice none 0 0)∨∃ k,c = .msl k 2 0 0∧hp k=some (some [])):RetOb 0 R (.tup [.agg [.v (.slice none 0 0),.v (.slice none 0 0)],.c c,DB false]) hp:=by
  rcases hc with rfl | ⟨k,rfl,hk⟩
  · refine RetOb.ofQ (fun _=>none) [] _ [] ⟨?_,trivial,trivial,by simp [enumL]⟩ hR (Nat.zero_le _)
    simp [DM,DMs,CM,CMs,Mm.cells,isI,trD]
  · refine RetOb.ofQ (fun _=>none) [k] _ [] ⟨?_,trivial,trivial,by simp [enumL]⟩ hR (Nat.zero_le _)
    simp [DM,DMs,CM,CMs,Mm.cells,isI,trD,hk]
theorem runProgS (p:Pg) (m:Mm) (hl:p.vars.length≤mx) (hl2:p.arrays.length≤mx) (hb:lsize 5 p.body≤1099511627776):DC Try.prog 60 [.agg p.cells,.agg m.cells] [] (fun r h=>r = .tup [.agg (runP p m).1.cells,.c (trD (runP p m).2.1),DB (runP p m).2.2]∧h=[]):=by
  have hv:=memoryValidS p m hl hl2 hb
  generalize hR:(fun (r:D) (h:List (Option (List C)))=>r = .tup [.agg (runP p m).1.cells,.c (trD (runP p m).2.1),DB (runP p m).2.2]∧h=[])=R
  have hmf:=@memFits_of _ p m
  have hbo:=@body_of _ p
  cases hq:(progOK p && memOK p.vars p.arrays m) with
  | false =>
    rw [hq] at hv
    have hr:=runP_false hq
    obtain ⟨vs,ar,bd⟩:=p
    obtain ⟨va,arr⟩:=m
    refine dcZ Try.func60 ?_
    simp only [go_sem,Mm.cells]
    iterate 2 (try (refine drvZ Try.func60 ?_;simp only [go_sem,Mm.cells]))
    refine XK.plain hv ok115 ?_ (hbT ())
    iterate 3 (try (refine drvZ Try.func60 ?_;simp only [go_sem]))
    refine RetOb.noRun ?_ (.inr ⟨_,rfl,rfl⟩)
    subst hR
    rw [hr]
    exact ⟨rfl,rfl⟩
  | true =>
    rw [hq] at hv
    have hr:=runP_true hq
    have hm:=hmf hq
    have hpo:progOK p=true:=by simp only [Bool.and_eq_true] at hq;exact hq.1
    have hbd:=hbo hpo
    have hcp:=l3Copy m (by have:=hm.nv;have:=hm.nv12;omega) (by have:=hm.na;have:=hm.na2;omega) (fun a ha=>(hm.arr a ha).1)
    unfold memB at hcp
    rw [hm.nv,hm.na] at hcp
    have hrn:=DC.nilLast (pre:=[.agg [.msl 0 1 0 p.vars.length,.msl 1 1 0 p.arrays.length],.c (.isl 11 (St1.cellsL p.body))]) (sz:=2) (h:=[some (m.vals.map I64),some (hdr 2 3 p.arrays.length),some (blk0 m.arrays),some (blk1 m.arrays)]) (runSpec p 5 m p.body [] hm hbd.1 (by rw [wt5];simp only [List.length_nil];omega))
    have hfin:=(runL_ok hm hbd.1).1
    obtain ⟨vs,ar,bd⟩:=p
    obtain ⟨va,arr⟩:=m
    refine dcZ Try.func60 ?_
    simp only [go_sem,Mm.cells]
    iterate 2 (try (refine drvZ Try.func60 ?_;simp only [go_sem,Mm.cells]))
    refine XK.plain hv ok115 ?_ (hbT ())
    iterate 3 (try (refine drvZ Try.func60 ?_;simp only [go_sem]))
    refine XK.callG [] hcp ok116 (fun i' x h=>by simp at h) (hbT ()) (fun d h' ⟨_,e⟩=>by subst e;simp) ?_
    rintro _ _ ⟨rfl,rfl⟩ _
    iterate 3 (try (refine drvZ Try.func60 ?_;simp only [go_sem,renCs_I,renCs_hdr,renCs_b0,renCs_b1,renCs_tr]))
    refine XK.callG [640,641,642,643] hrn ok117 (hhp4 (by simp [hpL,upd,renCs_I]) (by simp [hpL,upd,renCs_hdr,rk0]) (by simp [hpL,upd,renCs_b0]) (by simp [hpL,upd,renCs_b1])) (hbT ()) (fun d h' ⟨_,e⟩=>by subst e;simp) ?_
    rintro _ _ ⟨rfl,rfl⟩ _
    iterate 3 (try (refine drvZ Try.func60 ?_;simp only [go_sem,renCs_I,renCs_hdr,renCs_b0,renCs_b1,renCs_tr]))
    refine RetOb.run hfin ?_ rfl rfl rfl rfl rfl rfl rfl (by decide)
    subst hR
    rw [hr]
    exact ⟨rfl,rfl⟩
theorem runProgSO (p:Pg) (m:Mm) (hl:p.vars.length≤mx) (hl2:p.arrays.length≤mx) (hb:lsize 5 p.body≤1099511627776) (hq:(progOK p && memOK p.vars p.arrays m)=true):DC Try.prog 60 [.agg p.cells,.agg m.cells] [] (roR p (runP p m).1 (runP p m).2.1):=by
  have hv:=memoryValidS p m hl hl2 hb
  have hr:=runP_true hq
  rw [hr]
  simp only
  generalize hR:roR p (runL 5 m p.body).1 (runL 5 m p.body).2=R
  have hmf:=@memFits_of _ p m
  have hbo:=@body_of _ p
  rw [hq] at hv
  have hm:=hmf hq
  have hpo:progOK p=true:=by simp only [Bool.and_eq_true] at hq;exact hq.1
  have hbd:=hbo hpo
  have hcp:=l3Copy m (by have:=hm.nv;have:=hm.nv12;omega) (by have:=hm.na;have:=hm.na2;omega) (fun a ha=>(hm.arr a ha).1)
  unfold memB at hcp
  rw [hm.nv,hm.na] at hcp
  have hrn:=DC.nilLast (pre:=[.agg [.msl 0 1 0 p.vars.length,.msl 1 1 0 p.arrays.length],.c (.isl 11 (St1.cellsL p.body))]) (sz:=2) (h:=[some (m.vals.map I64),some (hdr 2 3 p.arrays.length),some (blk0 m.arrays),some (blk1 m.arrays)]) (runSpec p 5 m p.body [] hm hbd.1 (by rw [wt5];simp only [List.length_nil];omega))
  have hfin:=(runL_ok hm hbd.1).1
  obtain ⟨vs,ar,bd⟩:=p
  obtain ⟨va,arr⟩:=m
  refine dcZ Try.func60 ?_
  simp only [go_sem,Mm.cells]
  iterate 2 (try (refine drvZ Try.func60 ?_;simp only [go_sem,Mm.cells]))
  refine XK.plain hv ok115 ?_ (hbT ())
  iterate 3 (try (refine drvZ Try.func60 ?_;simp only [go_sem]))
  refine XK.callG [] hcp ok116 (fun i' x h=>by simp at h) (hbT ()) (fun d h' ⟨_,e⟩=>by subst e;simp) ?_
  rintro _ _ ⟨rfl,rfl⟩ _
  iterate 3 (try (refine drvZ Try.func60 ?_;simp only [go_sem,renCs_I,renCs_hdr,renCs_b0,renCs_b1,renCs_tr]))
  refine XK.callG [640,641,642,643] hrn ok117 (hhp4 (by simp [hpL,upd,renCs_I]) (by simp [hpL,upd,renCs_hdr,rk0]) (by simp [hpL,upd,renCs_b0]) (by simp [hpL,upd,renCs_b1])) (hbT ()) (fun d h' ⟨_,e⟩=>by subst e;simp) ?_
  rintro _ _ ⟨rfl,rfl⟩ _
  iterate 3 (try (refine drvZ Try.func60 ?_;simp only [go_sem,renCs_I,renCs_hdr,renCs_b0,renCs_b1,renCs_tr]))
  rw [← hR]
  exact RetOb.runO rfl rfl rfl rfl rfl rfl rfl hm.na2 (by decide)
theorem runProgI (p:Pg) (m:Mm) (hl:p.vars.length≤mx) (hl2:p.arrays.length≤mx):DC Try.prog 61 [.agg p.cells,.agg m.cells] [] (fun r h=>r = .tup [.agg (runP p m).1.cells,.c (trD (runP p m).2.1),DB (runP p m).2.2]∧h=[]):=by
  have hv:=memoryValidI p m hl hl2
  generalize hR:(fun (r:D) (h:List (Option (List C)))=>r = .tup [.agg (runP p m).1.cells,.c (trD (runP p m).2.1),DB (runP p m).2.2]∧h=[])=R
  have hmf:=@memFits_of _ p m
  have hbo:=@body_of _ p
  cases hq:(progOK p && memOK p.vars p.arrays m) with
  | false =>
    rw [hq] at hv
    have hr:=runP_false hq
    obtain ⟨vs,ar,bd⟩:=p
    obtain ⟨va,arr⟩:=m
    refine dcZ Try.func61 ?_
    simp only [go_sem,Mm.cells]
    iterate 2 (try (refine drvZ Try.func61 ?_;simp only [go_sem,Mm.cells]))
    refine XK.plain hv ok118 ?_ (hbT ())
    iterate 3 (try (refine drvZ Try.func61 ?_;simp only [go_sem]))
    refine RetOb.noRun ?_ (.inl rfl)
    subst hR
    rw [hr]
    exact ⟨rfl,rfl⟩
  | true =>
    rw [hq] at hv
    have hr:=runP_true hq
    have hm:=hmf hq
    have hpo:progOK p=true:=by simp only [Bool.and_eq_true] at hq;exact hq.1
    have hbd:=hbo hpo
    have hcp:=own m (by have:=hm.nv;have:=hm.nv12;omega) (by have:=hm.na;have:=hm.na2;omega) (fun a ha=>(hm.arr a ha).1)
    unfold memB at hcp
    rw [hm.nv,hm.na] at hcp
    have hrn:=runImpl p 5 m p.body [] hm hbd.1 (by rw [wt5];simp only [List.length_nil];omega)
    have hfin:=(runL_ok hm hbd.1).1
    obtain ⟨vs,ar,bd⟩:=p
    obtain ⟨va,arr⟩:=m
    refine dcZ Try.func61 ?_
    simp only [go_sem,Mm.cells]
    iterate 2 (try (refine drvZ Try.func61 ?_;simp only [go_sem,Mm.cells]))
    refine XK.plain hv ok118 ?_ (hbT ())
    iterate 3 (try (refine drvZ Try.func61 ?_;simp only [go_sem]))
    refine XK.callG [] hcp ok120 (fun i' x h=>by simp at h) (hbT ()) (fun d h' ⟨_,e⟩=>by subst e;simp) ?_
    rintro _ _ ⟨rfl,rfl⟩ _
    iterate 3 (try (refine drvZ Try.func61 ?_;simp only [go_sem,renCs_I,renCs_hdr,renCs_b0,renCs_b1,renCs_tr]))
    refine XK.subQ (r := fun j => if j = 0 then some 768 else if j = 1 then none else if j = 2 then some 640 else if j = 3 then some 641 else if j = 4 then some 642 else if j = 5 then some 643 else some 128) (fz := [])
      (tl:=[(4,.c (.ptr 6 0)),(7,.c (.ptr 0 0)),(17,.c (.ptr 0 0)),(19,.c (.isl 11 (St1.cellsL bd)))])
      (hl:=[(0,some [.msl 2 1 0 vs.length,.msl 3 1 0 ar.length,.msl 1 2 0 0]),(1,some []),(2,some (va.map I64)),(3,some (hdr 4 5 ar.length)),(4,some (blk0 arr)),(5,some (blk1 arr)),(6,some [.v (.slice none 0 0),.v (.slice none 0 0)])]) ?_ ?_
    · simp [Mq,TmOK,DM,CM,CMs,HpOK,LowOK,hOf,upd,CMs_I,CMs_hdr,CMs_b0,CMs_b1]
    refine XK.callG [0,1,2,3,4,5] hrn ok121 (hhp6 (by simp [hOf,upd,renCs,renC,rk0]) (by simp [hOf,upd,renCs_tr,renCs,renC,trC]) (by simp [hOf,upd,renCs_I]) (by simp [hOf,upd,renCs_hdr,rk0]) (by simp [hOf,upd,renCs_b0]) (by simp [hOf,upd,renCs_b1])) (hbT ()) (fun d h' ⟨_,e⟩=>by subst e;simp [stP']) ?_
    rintro _ _ ⟨rfl,rfl⟩ _
    unfold stP'
    iterate 3 (try (refine drvZ Try.func61 ?_;simp only [go_sem,renCs_I,renCs_hdr,renCs_b0,renCs_b1,renCs_tr]))
    (with_reducible and_intros)<;>try exact sd
    iterate 3 (try (refine drvZ Try.func61 ?_;simp only [go_sem,renCs_I,renCs_hdr,renCs_b0,renCs_b1,renCs_tr]))
    (with_reducible and_intros)<;>try exact sd
    refine RetOb.run hfin ?_ rfl rfl rfl rfl rfl rfl rfl (by decide)
    subst hR
    rw [hr]
    exact ⟨rfl,rfl⟩
theorem runProgIO (p:Pg) (m:Mm) (hl:p.vars.length≤mx) (hl2:p.arrays.length≤mx) (hq:(progOK p && memOK p.vars p.arrays m)=true):DC Try.prog 61 [.agg p.cells,.agg m.cells] [] (roR p (runP p m).1 (runP p m).2.1):=by
  have hv:=memoryValidI p m hl hl2
  have hr:=runP_true hq
  rw [hr]
  simp only
  generalize hR:roR p (runL 5 m p.body).1 (runL 5 m p.body).2=R
  have hmf:=@memFits_of _ p m
  have hbo:=@body_of _ p
  rw [hq] at hv
  have hm:=hmf hq
  have hpo:progOK p=true:=by simp only [Bool.and_eq_true] at hq;exact hq.1
  have hbd:=hbo hpo
  have hcp:=own m (by have:=hm.nv;have:=hm.nv12;omega) (by have:=hm.na;have:=hm.na2;omega) (fun a ha=>(hm.arr a ha).1)
  unfold memB at hcp
  rw [hm.nv,hm.na] at hcp
  have hrn:=runImpl p 5 m p.body [] hm hbd.1 (by rw [wt5];simp only [List.length_nil];omega)
  have hfin:=(runL_ok hm hbd.1).1
  obtain ⟨vs,ar,bd⟩:=p
  obtain ⟨va,arr⟩:=m
  refine dcZ Try.func61 ?_
  simp only [go_sem,Mm.cells]
  iterate 2 (try (refine drvZ Try.func61 ?_;simp only [go_sem,Mm.cells]))
  refine XK.plain hv ok118 ?_ (hbT ())
  iterate 3 (try (refine drvZ Try.func61 ?_;simp only [go_sem]))
  refine XK.callG [] hcp ok120 (fun i' x h=>by simp at h) (hbT ()) (fun d h' ⟨_,e⟩=>by subst e;simp) ?_
  rintro _ _ ⟨rfl,rfl⟩ _
  iterate 3 (try (refine drvZ Try.func61 ?_;simp only [go_sem,renCs_I,renCs_hdr,renCs_b0,renCs_b1,renCs_tr]))
  refine XK.subQ (r := fun j => if j = 0 then some 768 else if j = 1 then none else if j = 2 then some 640 else if j = 3 then some 641 else if j = 4 then some 642 else if j = 5 then some 643 else some 128) (fz := [])
    (tl:=[(4,.c (.ptr 6 0)),(7,.c (.ptr 0 0)),(17,.c (.ptr 0 0)),(19,.c (.isl 11 (St1.cellsL bd)))])
    (hl:=[(0,some [.msl 2 1 0 vs.length,.msl 3 1 0 ar.length,.msl 1 2 0 0]),(1,some []),(2,some (va.map I64)),(3,some (hdr 4 5 ar.length)),(4,some (blk0 arr)),(5,some (blk1 arr)),(6,some [.v (.slice none 0 0),.v (.slice none 0 0)])]) ?_ ?_
  · simp [Mq,TmOK,DM,CM,CMs,HpOK,LowOK,hOf,upd,CMs_I,CMs_hdr,CMs_b0,CMs_b1]
  refine XK.callG [0,1,2,3,4,5] hrn ok121 (hhp6 (by simp [hOf,upd,renCs,renC,rk0]) (by simp [hOf,upd,renCs_tr,renCs,renC,trC]) (by simp [hOf,upd,renCs_I]) (by simp [hOf,upd,renCs_hdr,rk0]) (by simp [hOf,upd,renCs_b0]) (by simp [hOf,upd,renCs_b1])) (hbT ()) (fun d h' ⟨_,e⟩=>by subst e;simp [stP']) ?_
  rintro _ _ ⟨rfl,rfl⟩ _
  unfold stP'
  iterate 3 (try (refine drvZ Try.func61 ?_;simp only [go_sem,renCs_I,renCs_hdr,renCs_b0,renCs_b1,renCs_tr]))
  (with_reducible and_intros)<;>try exact sd
  iterate 3 (try (refine drvZ Try.func61 ?_;simp only [go_sem,renCs_I,renCs_hdr,renCs_b0,renCs_b1,renCs_tr]))
  (with_reducible and_intros)<;>try exact sd
  rw [← hR]
  exact RetOb.runO rfl rfl rfl rfl rfl rfl rfl hm.na2 (by decide)
end Go.Proofs.Ytddanjifhdaebaa.CtR
namespace Go.Proofs.Ytddanjifhdaebaa.CtD
open Go Go.CT CtF
variable [Yn]
def rdr (bs:List Int) (p:Int):List C:=[.isl 1 (bs.map fun n=>[.v (.int .u8 n)]),.v (.int .i64 p)]
theorem pick (bs : List Int) (p : Nat) (n : Int) (hb : Fits .u8 bs) (hl : bs.length ≤ 2000) (h1 : p ≤ 1099511627776) (hn : InK .i64 n) : DC Try.prog 158 [.c (.ptr 0 0), DI .i64 n] [some (rdr bs p)]
    (fun d h=>∃ v:Int,d=DI .i64 v∧((n<1∨bs=[])∧v=0∨0≤v∧v<n)∧h=[some (rdr bs ((p+1:Nat):Int))]):=by
  have hmx:=mx_eq
  refine dc_of_go Try.func158 rfl (by simp) ?_
  have ret:∀ (v:Int) (hp:Hp),((n<1∨bs=[])∧v=0∨0≤v∧v<n)→hp 0=some (some [.isl 1 (bs.map fun n=>[.v (.int .u8 n)]),.v (.int .i64 (p+1))]) →
      RetOb 1 (fun d h=>∃ v:Int,d = .c (.v (.int .i64 v))∧((n<1∨bs=[])∧v=0∨0≤v∧v<n)∧h=[some [.isl 1 (bs.map fun n=>[.v (.int .u8 n)]),.v (.int .i64 (p+1))]]) (.c (.v (.int .i64 v))) hp:=fun v hp hv hhp=>by
    refine RetOb.of (fun k=>if k=0 then some 0 else none) [] (DI .i64 v) [_] (subH_one' rfl hhp (by simp [kf]) (by simp)) (by simp [DM,CM,DI]) ⟨v,rfl,hv,rfl⟩ (by simp)
  refine drv_sound (n:=37) (rs:=_) Try.func158 mo rfl none _ _ ?_
  simp (maxSteps:=10000000) (maxDischargeDepth:=300) only [go_sem,rdr,List.length_eq_zero_iff,Int.natCast_eq_zero]
  refine ⟨by simp only [InK];omega,fun h=>ret _ _ (.inl ⟨h,rfl⟩) (upd_same _ _ _),fun h=>?_⟩
  have hbl:0<bs.length:=List.length_pos_iff.2 h.2
  have hby:∀ {j:Nat} {x:Int},bs[j]? = some x→0≤x∧x≤255:=fun {j x} hx=>by
    obtain ⟨hlt,e⟩:=List.getElem?_eq_some_iff.1 hx
    exact hb x (e ▸ List.getElem_mem hlt)
  have hrem:∀ a:Int,0≤a→0≤a % n∧a % n<n:=fun a _=>⟨Int.emod_nonneg _ (by omega),Int.emod_lt_of_pos _ (by omega)⟩
  refine drv_sound (n:=100) (rs:=_) Try.func158 mo rfl (some _) _ _ ?_
  rcases Nat.lt_or_ge p bs.length with hlt | hge
  · obtain ⟨x,hx⟩:∃ x,bs[p]? = some x:=⟨bs[p],by simp⟩
    have hxb:=hby hx
    have hnlt:¬ bs.length≤p:=by omega
    simp (maxSteps:=10000000) (maxDischargeDepth:=300) only [go_sem,hx,hlt,hnlt]
    exact ⟨by simp only [InK];omega,by simp only [InK];omega,by omega,ret _ _ (.inr (hrem x hxb.1)) (upd_same _ _ _)⟩
  · have hnlt:¬ p<bs.length:=by omega
    have hm1:((p:Int) % bs.length).toNat<bs.length:=by
      have:=Int.emod_lt_of_pos (p:Int) (b:=bs.length) (by omega)
      have:=Int.emod_nonneg (p:Int) (b:=bs.length) (by omega)
      omega
    have hm2:(((p:Int) * 7+3) % bs.length).toNat<bs.length:=by
      have:=Int.emod_lt_of_pos ((p:Int) * 7+3) (b:=bs.length) (by omega)
      have:=Int.emod_nonneg ((p:Int) * 7+3) (b:=bs.length) (by omega)
      omega
    obtain ⟨x,hx⟩:∃ x,bs[((p:Int) % bs.length).toNat]? = some x:=⟨_,List.getElem?_eq_getElem hm1⟩
    obtain ⟨y,hy⟩:∃ x,bs[(((p:Int) * 7+3) % bs.length).toNat]? = some x:=⟨_,List.getElem?_eq_getElem hm2⟩
    have hxb:=hby hx
    have hyb:=hby hy
    simp (maxSteps:=10000000) (maxDischargeDepth:=300) only [go_sem,hx,hy,hge,hnlt]
    have hq0:0≤(p:Int) / bs.length:=Int.ediv_nonneg (by omega) (by omega)
    have hq1:(p:Int) / bs.length≤p:=Int.ediv_le_self _ (by omega)
    generalize (p:Int) / bs.length=q at *
    repeat' with_reducible apply And.intro
    all_goals first | kernel_rfl | (simp only [InK];omega) | omega | exact Int.emod_nonneg _ (by omega) | exact ret _ _ (.inr (hrem _ (Int.natCast_nonneg _))) (upd_same _ _ _)
theorem num (bs : List Int) (p : Nat) (xs : List Int) (hb : Fits .u8 bs) (hl : bs.length ≤ 2000) (h1 : p ≤ 1099511627776) (hx0 : 0 < xs.length) (hx1 : xs.length ≤ mx) : DC Try.prog 159 [.c (.ptr 0 0), ints xs] [some (rdr bs p)]
    (fun d h=>∃ v:Int,d=DI .i64 v∧v ∈ xs∧h=[some (rdr bs ((p+1:Nat):Int))]):=by
  have hmx:=mx_eq
  refine dc_of_go Try.func159 rfl (by simp) ?_
  refine drv_sound (n:=100) (rs:=_) Try.func159 mo rfl none _ _ ?_
  simp (maxSteps:=10000000) (maxDischargeDepth:=300) only [go_sem,rdr,ints]
  refine XK.callG [0] (pick bs p xs.length hb hl h1 (by simp only [InK];omega)) ok158 (hhp_one rfl) (fun j hj=>by simp [hpL]) (fun d h' ⟨v,_,_,e⟩=>by subst e;simp) ?_
  rintro d h' ⟨v,rfl,hv,rfl⟩ _
  have hv2:0≤v∧v<xs.length:=by
    rcases hv with ⟨h | h,_⟩ | h
    · omega
    · omega
    · exact h
  refine drv_sound (n:=100) (rs:=_) Try.func159 mo rfl (some _) _ _ ?_
  obtain ⟨y,hy⟩:∃ y,xs[v.toNat]? = some y:=⟨xs[v.toNat]'(by omega),List.getElem?_eq_getElem (by omega)⟩
  have hmem:y ∈ xs:=List.mem_of_getElem? hy
  simp (maxSteps:=10000000) (maxDischargeDepth:=300) only [go_sem,rdr,ints,hy]
  exact ⟨by omega,RetOb.keep1 (d:=DI .i64 y) (cs:=rdr bs ((p+1:Nat):Int)) ⟨y,rfl,hmem,rfl⟩ rfl (by simp [rdr,kf]) rfl⟩
end Go.Proofs.Ytddanjifhdaebaa.CtD
namespace Go.Proofs.Ytddanjifhdaebaa.CtR
end Go.Proofs.Ytddanjifhdaebaa.CtR
namespace Go.Proofs.Ytddanjifhdaebaa.CtD
open Go Go.CT CtF CtR
variable [Yn]
end Go.Proofs.Ytddanjifhdaebaa.CtD
namespace Go.Proofs.Ytddanjifhdaebaa.CtR
open Go Go.CT CtF
variable [Yn]
theorem RetOb.two {R:D→List (Option (List C))→Prop} {a b:Int} {hp:Hp} (h:R (.tup [DI .i64 a,DI .i64 b]) []):RetOb 0 R (.tup [DI .i64 a,DI .i64 b]) hp :=
  RetOb.ofQ (fun _=>none) [] (.tup [DI .i64 a,DI .i64 b]) [] (by simp [enumL,DM,DMs,CM,HpOK,LowOK]) h (by simp)
abbrev BC (b:Bool):C := .v (.bool b)
def boolsC (bs:List Bool):List C:=bs.map BC
theorem boolsC_kf (bs:List Bool):∀ c ∈ boolsC bs,kf c=true:=by
  intro c hc;obtain ⟨x,_,rfl⟩:=List.mem_map.1 hc;rfl
end Go.Proofs.Ytddanjifhdaebaa.CtR
namespace Go.Proofs.Ytddanjifhdaebaa.CtD
open Go Go.CT CtF CtR
variable [Yn]
theorem runP_sm (p:Pg) (m:Mm):(runP p m).1.vals.length≤12∧(runP p m).1.arrays.length≤2∧(∀ a ∈ (runP p m).1.arrays,a.length≤4)∧(runP p m).2.1.length≤1000000:=by
  cases hq:(progOK p && memOK p.vars p.arrays m) with
  | false=>rw [runP_false hq];simp
  | true =>
    rw [runP_true hq]
    have hm:=memFits_of hq
    simp only [Bool.and_eq_true] at hq
    have hb:=body_of hq.1
    have h:=runL_ok hm hb.1
    have h2:=h.2
    rw [wt5] at h2
    refine ⟨by rw [h.1.nv];exact hm.nv12.2,by rw [h.1.na];exact hm.na2,fun a ha=>by have:=(h.1.arr a ha).1;omega,?_⟩
    have:=hb.2
    simp only
    omega
end Go.Proofs.Ytddanjifhdaebaa.CtD
namespace Go.Proofs.Ytddanjifhdaebaa.CtR
open Go Go.CT CtF
variable [Yn]
end Go.Proofs.Ytddanjifhdaebaa.CtR
namespace Go.Proofs.Ytddanjifhdaebaa.CtD
open Go Go.CT CtF CtR
variable [Yn]
end Go.Proofs.Ytddanjifhdaebaa.CtD
namespace Go.Proofs.Ytddanjifhdaebaa.CtR
end Go.Proofs.Ytddanjifhdaebaa.CtR
namespace Go.Proofs.Ytddanjifhdaebaa.CtD
open Go Go.CT CtF CtR
variable [Yn]
end Go.Proofs.Ytddanjifhdaebaa.CtD
namespace Go.Proofs.Ytddanjifhdaebaa.CtF
end Go.Proofs.Ytddanjifhdaebaa.CtF
namespace Go.Proofs.Ytddanjifhdaebaa.CtR
end Go.Proofs.Ytddanjifhdaebaa.CtR
namespace Go.Proofs.Ytddanjifhdaebaa.CtD
open Go Go.CT CtF CtR
variable [Yn]
end Go.Proofs.Ytddanjifhdaebaa.CtD
namespace Go.Proofs.Ytddanjifhdaebaa.CtF
end Go.Proofs.Ytddanjifhdaebaa.CtF
namespace Go.Proofs.Ytddanjifhdaebaa.CtR
end Go.Proofs.Ytddanjifhdaebaa.CtR
namespace Go.Proofs.Ytddanjifhdaebaa.CtD
open Go Go.CT CtF CtR
variable [Yn]
end Go.Proofs.Ytddanjifhdaebaa.CtD
namespace Go.Proofs.Ytddanjifhdaebaa.CtF
end Go.Proofs.Ytddanjifhdaebaa.CtF
namespace Go.Proofs.Ytddanjifhdaebaa.CtR
end Go.Proofs.Ytddanjifhdaebaa.CtR
namespace Go.Proofs.Ytddanjifhdaebaa.CtD
open Go Go.CT CtF CtR
variable [Yn]
end Go.Proofs.Ytddanjifhdaebaa.CtD
namespace Go.Proofs.Ytddanjifhdaebaa.CtF
end Go.Proofs.Ytddanjifhdaebaa.CtF
namespace Go.Proofs.Ytddanjifhdaebaa.CtR
end Go.Proofs.Ytddanjifhdaebaa.CtR
namespace Go.Proofs.Ytddanjifhdaebaa.CtD
open Go Go.CT CtF CtR
variable [Yn]
def runO (d : Nat) (m : Mm) : Option St1 → Mm × List Ev
  | none=>(m,[])
  | some s=>runS d m s
end Go.Proofs.Ytddanjifhdaebaa.CtD
namespace Go.Proofs.Ytddanjifhdaebaa.CtF
variable [Go.CT.Yn]
end Go.Proofs.Ytddanjifhdaebaa.CtF
namespace Go.Proofs.Ytddanjifhdaebaa.CtR
variable [Go.CT.Yn]
open Go Go.CT CtF
def subL (a b:Nat):Bool:=a ||| b == b
open Go Go.CT CtF
open Go Go.CT CtF
end Go.Proofs.Ytddanjifhdaebaa.CtR
namespace Go.Proofs.Ytddanjifhdaebaa.CtF
end Go.Proofs.Ytddanjifhdaebaa.CtF
namespace Go.Proofs.Ytddanjifhdaebaa.CtR
end Go.Proofs.Ytddanjifhdaebaa.CtR
namespace Go.Proofs.Ytddanjifhdaebaa.CtR
open Go Go.CT CtF
variable [Yn]
theorem le3 {a:Nat} (h:a≤3):a=0∨a=1∨a=2∨a=3:=by omega
theorem subI (a b:Nat) (ha:a≤3) (hb:b≤3):decide (((a ||| b:Nat):Int)=(b:Int))=subL a b:=by
  rcases le3 ha with rfl | rfl | rfl | rfl<;>rcases le3 hb with rfl | rfl | rfl | rfl<;>decide
end Go.Proofs.Ytddanjifhdaebaa.CtR
namespace Go.Proofs.Ytddanjifhdaebaa.CtD
open Go Go.CT CtF CtR
variable [Yn]
end Go.Proofs.Ytddanjifhdaebaa.CtD
namespace Go.Proofs.Ytddanjifhdaebaa.CtR
variable [Go.CT.Yn]
open Go Go.CT CtF
open Go Go.CT CtF
end Go.Proofs.Ytddanjifhdaebaa.CtR
namespace Go.Proofs.Ytddanjifhdaebaa.CtD
open Go Go.CT CtF CtR
variable [Yn]
def bl (n N:Nat):List Bool:=(List.range n).map fun i=>N.testBit i
def rowsB (w:Nat) (S:List Nat):List (List C):=S.map fun N=>boolsC (bl w N)
theorem rowsB_len (w:Nat) (S:List Nat):(rowsB w S).length=S.length:=by simp [rowsB]
theorem rowsB_kf (w:Nat) (S:List Nat):∀ x ∈ rowsB w S,∀ c ∈ x,kf c=true:=fun x hx c hc=>by
  obtain ⟨N,_,rfl⟩:=List.mem_map.1 hx;exact boolsC_kf _ c hc
theorem fam_row {hp:Hp} {b w i:Nat} {S:List Nat} {row:List C} (hS:S.length≤32) (h:(rowsB w S)[i]? = some row):fam hp b (rowsB w S) (b+i)=some (some row):=by
  have:=(List.getElem?_eq_some_iff.1 h).1
  rw [rowsB_len] at this
  rw [fam_at (by omega),h];rfl
theorem SubH.rows {m : Nat} {r : Nat → Option Nat} {hl : List (Nat × Option (List C))} {hp : Hp} {b b' w : Nat} {S : List Nat} (hS : S.length ≤ 32) (hr : ∀ i, i < S.length → r (b + i) = some (b' + i))
    (hok:HpOK (fam (hOf hl) b (rowsB w S)) r (fam hp b' (rowsB w S)) [] hl) (hlow:LowOK r (fam (hOf hl) b (rowsB w S)) m) (hnd:((hl.filterMap fun p=>p.2.map fun _=>p.1).filterMap r).Nodup)
    (hdis:∀ p ∈ hl,∀ j,r p.1=some j→j<b'∨b' + 32≤j):SubH m r [] (fam (hOf hl) b (rowsB w S)) (fam hp b' (rowsB w S)):=by
  have hl0:=rowsB_len w S
  refine SubH.fam (fun n=>b' + n) (fun i hi=>hr i (by omega)) (fun i j hi hj h=>by omega) (fun i hi=>by simp) (fun i row hi=>fam_row hS hi) (rowsB_kf w S) hok hlow hnd ?_
  intro k j cs hm hj i hi e
  have:=hdis _ hm j hj
  omega
end Go.Proofs.Ytddanjifhdaebaa.CtD
namespace Go.Proofs.Ytddanjifhdaebaa.CtR
variable [Go.CT.Yn]
open Go Go.CT CtF
end Go.Proofs.Ytddanjifhdaebaa.CtR
namespace Go.Proofs.Ytddanjifhdaebaa.CtL
variable [Go.CT.Yn]
open Go Go.CT CtF CtR
def e0:Ex := .mk 0 0 []
open Go Go.CT CtF CtR
open Go Go.CT CtF CtR
open Go Go.CT CtF CtR
def Ext (p:Pg) (vs:List Int):Prop:=∃ w,vs=p.vars++w
theorem Ext.more {p:Pg} {vs ws:List Int} (h:Ext p vs) (h2:∃ w,ws=vs++w):Ext p ws:=by
  obtain ⟨a,rfl⟩:=h
  obtain ⟨b,rfl⟩:=h2
  exact ⟨a++b,by simp⟩
theorem Ext.le {p:Pg} {vs:List Int} (h:Ext p vs):p.vars.length≤vs.length:=by
  obtain ⟨a,rfl⟩:=h
  simp
open Go Go.CT CtF CtR
open Go Go.CT CtF CtR
def Sub (a b:Nat):Prop:=∀ β,a.testBit β=true→b.testBit β=true
theorem Sub.refl (a:Nat):Sub a a:=fun _ h=>h
theorem Sub.trans {a b c:Nat} (h:Sub a b) (g:Sub b c):Sub a c:=fun β x=>g β (h β x)
theorem Sub.zero (a:Nat):Sub 0 a:=fun β h=>by simp at h
theorem Sub.or {a b c:Nat}:Sub (a ||| b) c ↔ Sub a c∧Sub b c:=by
  constructor
  · exact fun h=>⟨fun β x=>h β (by simp [x]),fun β x=>h β (by simp [x])⟩
  · rintro ⟨h1,h2⟩ β x
    rw [Nat.testBit_or,Bool.or_eq_true] at x
    exact x.elim (h1 β) (h2 β)
theorem Sub.left (a b:Nat):Sub a (a ||| b):=fun β h=>by simp [h]
theorem Sub.right (a b:Nat):Sub b (a ||| b):=fun β h=>by simp [h]
theorem Sub.l {a b c:Nat} (h:Sub a b):Sub a (b ||| c):=h.trans (Sub.left _ _)
theorem Sub.r {a b c:Nat} (h:Sub a c):Sub a (b ||| c):=h.trans (Sub.right _ _)
open Go Go.CT CtF CtR
open Go Go.CT CtF CtR
open Go Go.CT CtF CtR
end Go.Proofs.Ytddanjifhdaebaa.CtL
namespace Go.Proofs.Ytddanjifhdaebaa.CtD
open Go Go.CT CtF CtR
variable [Yn]
end Go.Proofs.Ytddanjifhdaebaa.CtD
namespace Go.Proofs.Ytddanjifhdaebaa.CtL
variable [Go.CT.Yn]
open Go Go.CT CtF CtR
open Go Go.CT CtF CtR
structure In where
  op:Int
  a:Int
  b:Int
  c:Int
  d:Int
def halt:In:=⟨13,0,0,0,0⟩
def stp (X:List Ev):Nat:=X.countP fun e=>e.kind == 5
open Go Go.CT CtF CtR
open Go Go.CT CtF CtR
open Go Go.CT CtF CtR
def kindsOf (op:Int):List Nat :=
  if op=1 then [1,2,0,0] else if op=2 then [1,3,0,0] else if op=3 then [3,1,0,0] else if op=4 then [1,4,1,0] else if op=5 then [4,1,1,0]
  else if op=6 then [1,5,1,1] else if op=7 then [1,1,1,1] else if op=8 then [6,0,0,0] else if op=9 then [1,6,0,0] else if op=10 then [1,6,0,0]
  else if op=11 then [1,0,0,0] else [0,0,0,0]
end Go.Proofs.Ytddanjifhdaebaa.CtL
namespace Go.Proofs.Ytddanjifhdaebaa.CtD
open Go Go.CT CtF CtR
variable [Yn]
open CtL (In)
open CtL (In)
open CtL (In)
open CtL (In)
open CtL (In halt)
open CtL (In kindsOf)
def ltr (k:Nat):UInt8:=if k=0 then 45 else if k=1 then 114 else if k=2 then 110 else if k=3 then 118 else if k=4 then 97 else if k=5 then 111 else 105
def shp (op:Int):ByteArray:=⟨#[ltr ((kindsOf op).getD 0 0),ltr ((kindsOf op).getD 1 0),ltr ((kindsOf op).getD 2 0),ltr ((kindsOf op).getD 3 0)]⟩
open CtL (In kindsOf halt)
open CtL (In)
open CtL (In)
end Go.Proofs.Ytddanjifhdaebaa.CtD
namespace Go.Proofs.Ytddanjifhdaebaa.CtL
variable [Go.CT.Yn]
open Go Go.CT CtF CtR
end Go.Proofs.Ytddanjifhdaebaa.CtL
namespace Go.Proofs.Ytddanjifhdaebaa.CtD
open Go Go.CT CtF CtR
variable [Yn]
end Go.Proofs.Ytddanjifhdaebaa.CtD
