/- Contracts of functions of the program, one behind the other, as plain data: what each call returns and which blocks it leaves. -/
import Derived.Test.YtmjkgjkkpaephaaGreatXFacts
import Derived.Test.YtmjkgjkkpaephaaGreatXAi
import Derived.Test.YtmjkgjkkpaephaaGreatXAj
import Derived.Test.YtmjkgjkkpaephaaGreatXAk
import Derived.Test.YtmjkgjkkpaephaaGreatXAl
import Derived.Test.YtmjkgjkkpaephaaGreatXAm
import Derived.Test.YtmjkgjkkpaephaaGreatXAn
import Derived.Test.YtmjkgjkkpaephaaGreatXAo
import Derived.Test.YtmjkgjkkpaephaaGreatXAr
import Derived.Test.YtmjkgjkkpaephaaGreatXAh
import Derived.Test.YtmjkgjkkpaephaaGreatXAp
import Derived.Test.YtmjkgjkkpaephaaGreatXAq
set_option linter.unusedVariables false
set_option linter.unusedSimpArgs false
set_option maxHeartbeats 16000000
set_option maxRecDepth 100000
namespace Go.Proofs.YtmjkgjkkpaephaaGreat.CtD
open Go Go.CT CtF CtR
open CtL (In Cd compP compL lenL)
def mapP (p:Pg):List Int:=if (compP p).2=true then ownL p else []
theorem RetOb.mp {R:D→List (Option (List C))→Prop} {hp:Hp} (hR:R (.tup [.c (.isl 1 (([]:List Int).map fun n=>[I64 n])),DB false]) []) {c:C} (hc:c = .v (.slice none 0 0)∨∃ k,c = .msl k 1 0 0∧hp k=some (some [])):RetOb 0 R (.tup [.c c,DB false]) hp:=by
  rcases hc with rfl | ⟨k,rfl,hk⟩
  · refine RetOb.ofQ (fun _=>none) [] _ [] ?_ hR (by simp)
    simp [enumL,DM,DMs,CM,CMs,HpOK,LowOK]
  · refine RetOb.ofQ (fun _=>none) [k] _ [] ?_ hR (by simp)
    simp [enumL,DM,DMs,CM,CMs,HpOK,LowOK,hk]
theorem compMapS (p:Pg) (hv:p.vars.length≤2000000) (ha:p.arrays.length≤2000000) (hz:lsize 5 p.body≤1099511627776):DC Tryz.prog 34 [.agg p.cells] [] (fun r h=>r = .tup [.c (.isl 1 ((mapP p).map fun n=>[I64 n])),DB (compP p).2]∧h=[]):=by
  have hmx:=mx_eq
  have hc:=compileS p hv ha hz
  generalize hR:(fun (r:D) (h:List (Option (List C)))=>r = .tup [.c (.isl 1 ((mapP p).map fun n=>[I64 n])),DB (compP p).2]∧h=[])=R
  by_cases hok:progOK p=true∧lenL 5 p.body+1≤400
  · have hcp:compP p=(⟨p.vars,p.arrays,compL p⟩,true):=if_pos hok
    rw [mapP,hcp,if_pos rfl] at hR
    rw [show l7R p=fun r h=>r = .tup [CsD 0 1 (compL p) (ownL p) (lsize 5 p.body:Nat),DB true]∧h=CsH (compL p) (ownL p) by funext r h;simp [l7R,hcp]] at hc
    generalize compL p=B at *
    generalize ownL p=W at *
    generalize lsize 5 p.body=M at *
    obtain ⟨vs,ar,bd⟩:=p
    have hgw:=flat_I W
    refine dcZ Tryz.func34 ?_
    simp only [go_sem]
    iterate 2 ((try (refine drvZ Tryz.func34 ?_;simp only [go_sem]));((with_reducible and_intros)<;>try exact sd))
    refine XK.callG [] hc ok72 (fun i' x h=>by simp at h) (hbT ()) (fun d h' ⟨_,e⟩=>by subst e;simp) ?_
    rintro _ _ ⟨rfl,rfl⟩ _
    iterate 8 ((try (refine drvZ Tryz.func34 ?_;simp only [go_sem,renCs_in,renCs_I]));((with_reducible and_intros)<;>try exact sd))
    refine RetOb.ofQ (fun _=>none) [257] (.tup [.c (.isl 1 (W.map fun n=>[I64 n])),DB true]) [] ?_ (by rw [← hR];exact ⟨rfl,rfl⟩) (by simp)
    simp [-List.mem_map,enumL,hOf,DM,DMs,CM,CMs,HpOK,LowOK,upd,hgw,appUp,upsFrom,rkey,wkey,renCs_in,renCs_I]
    exact ⟨I_len1 _,I_kf1 _⟩
  · have hcp:compP p=(⟨[],[],[]⟩,false):=if_neg hok
    rw [mapP,hcp,if_neg (by simp)] at hR
    rw [show l7R p=fun r h=>r = .tup [.agg [.v (.slice none 0 0),.v (.slice none 0 0),I64 0],DB false]∧h=[] by funext r h;simp [l7R,hcp]] at hc
    obtain ⟨vs,ar,bd⟩:=p
    refine dcZ Tryz.func34 ?_
    simp only [go_sem]
    iterate 2 ((try (refine drvZ Tryz.func34 ?_;simp only [go_sem]));((with_reducible and_intros)<;>try exact sd))
    refine XK.callG [] hc ok72 (fun i' x h=>by simp at h) (hbT ()) (fun d h' ⟨_,e⟩=>by subst e;simp) ?_
    rintro _ _ ⟨rfl,rfl⟩ _
    iterate 6 ((try (refine drvZ Tryz.func34 ?_;simp only [go_sem]));((with_reducible and_intros)<;>try exact sd))
    exact RetOb.mp (by rw [← hR];exact ⟨rfl,rfl⟩) (.inr ⟨_,rfl,rfl⟩)
theorem compMapI (p:Pg) (hv:p.vars.length≤2000000) (ha:p.arrays.length≤2000000):DC Tryz.prog 40 [.agg p.cells] [] (fun r h=>r = .tup [.c (.isl 1 ((mapP p).map fun n=>[I64 n])),DB (compP p).2]∧h=[]):=by
  have hmx:=mx_eq
  generalize hR:(fun (r:D) (h:List (Option (List C)))=>r = .tup [.c (.isl 1 ((mapP p).map fun n=>[I64 n])),DB (compP p).2]∧h=[])=R
  by_cases hok:progOK p=true
  · have hc:=compiledI p hv ha hok
    unfold cpR at hc
    by_cases hl:lenL 5 p.body+1≤400
    · have hcp:compP p=(⟨p.vars,p.arrays,compL p⟩,true):=if_pos ⟨hok,hl⟩
      rw [mapP,hcp,if_pos rfl] at hR
      rw [show decide ((lenL 5 p.body:Int)+1≤400)=true by simp;omega] at hc
      generalize compL p=B at *
      generalize ownL p=W at *
      generalize lsize 5 p.body=M at *
      obtain ⟨vs,ar,bd⟩:=p
      have hgw:=flat_I W
      refine dcZ Tryz.func40 ?_
      simp only [go_sem]
      iterate 2 ((try (refine drvZ Tryz.func40 ?_;simp only [go_sem]));((with_reducible and_intros)<;>try exact sd))
      refine XK.callG [] hc ok77 (fun i' x h=>by simp at h) (hbT ()) (fun d h' ⟨_,e⟩=>by subst e;simp) ?_
      rintro _ _ ⟨rfl,rfl⟩ _
      iterate 6 ((try (refine drvZ Tryz.func40 ?_;simp only [go_sem,renCs_in,renCs_I]));((with_reducible and_intros)<;>try exact sd))
      refine RetOb.ofQ (fun _=>none) [258] (.tup [.c (.isl 1 (W.map fun n=>[I64 n])),DB true]) [] ?_ (by rw [← hR];exact ⟨rfl,rfl⟩) (by simp)
      simp [-List.mem_map,enumL,hOf,DM,DMs,CM,CMs,HpOK,LowOK,upd,hgw,appUp,upsFrom,rkey,wkey,renCs_in,renCs_I]
      exact ⟨I_len1 _,I_kf1 _⟩
    · have hcp:compP p=(⟨[],[],[]⟩,false):=if_neg fun h=>hl h.2
      rw [mapP,hcp,if_neg (by simp)] at hR
      rw [show decide ((lenL 5 p.body:Int)+1≤400)=false by simp;omega] at hc
      generalize compL p=B at *
      generalize ownL p=W at *
      generalize lsize 5 p.body=M at *
      obtain ⟨vs,ar,bd⟩:=p
      refine dcZ Tryz.func40 ?_
      simp only [go_sem]
      iterate 2 ((try (refine drvZ Tryz.func40 ?_;simp only [go_sem]));((with_reducible and_intros)<;>try exact sd))
      refine XK.callG [] hc ok77 (fun i' x h=>by simp at h) (hbT ()) (fun d h' ⟨_,e⟩=>by subst e;simp) ?_
      rintro _ _ ⟨rfl,rfl⟩ _
      iterate 6 ((try (refine drvZ Tryz.func40 ?_;simp only [go_sem]));((with_reducible and_intros)<;>try exact sd))
      exact RetOb.mp (by rw [← hR];exact ⟨rfl,rfl⟩) (.inl rfl)
  · have hc:=compiledI0 p hv ha (by simpa using hok)
    have hcp:compP p=(⟨[],[],[]⟩,false):=if_neg fun h=>hok h.1
    rw [mapP,hcp,if_neg (by simp)] at hR
    obtain ⟨vs,ar,bd⟩:=p
    refine dcZ Tryz.func40 ?_
    simp only [go_sem]
    iterate 2 ((try (refine drvZ Tryz.func40 ?_;simp only [go_sem]));((with_reducible and_intros)<;>try exact sd))
    refine XK.callG [] hc ok77 (fun i' x h=>by simp at h) (hbT ()) (fun d h' ⟨_,e⟩=>by subst e;simp) ?_
    rintro _ _ ⟨rfl,rfl⟩ _
    iterate 6 ((try (refine drvZ Tryz.func40 ?_;simp only [go_sem]));((with_reducible and_intros)<;>try exact sd))
    exact RetOb.mp (by rw [← hR];exact ⟨rfl,rfl⟩) (.inl rfl)
end Go.Proofs.YtmjkgjkkpaephaaGreat.CtD
namespace Go.Proofs.YtmjkgjkkpaephaaGreat.CtL
open Go Go.CT CtF CtR
def blm (T : List Ev) : Nat → Int
  | 0 => -1
  | i+1=>match T[i]? with
    | some e=>if e.kind=5 then e.value else blm T i
    | none=>blm T i
def blAt (T:List Ev) (n:Nat):Nat:=match T[n]? with
  | some e=>if e.kind=5 then n else n+1
  | none=>n
theorem blAt_ge (T:List Ev) (n:Nat):n≤blAt T n:=by
  unfold blAt
  split
  · split<;>omega
  · exact Nat.le_refl _
theorem blAt_app (A B:List Ev) (k:Nat):blAt (A++B) (A.length+k)=A.length+blAt B k:=by
  unfold blAt
  rw [List.getElem?_append_right (by omega),Nat.add_sub_cancel_left]
  cases B[k]? with
  | none=>rfl
  | some e =>
    simp only
    split<;>omega
theorem blm_app {A B : List Ev} {v : Int} {r : List Ev} (hB : B = ⟨5, v⟩ :: r) : ∀ (i : Nat), blm (A ++ B) (A.length + (i + 1)) = blm B (i + 1)
  | 0=>by
    have e:(A++B)[A.length]? = some ⟨5,v⟩:=by rw [List.getElem?_append_right (Nat.le_refl _),hB];simp
    show blm (A++B) (A.length+1)=_
    rw [blm,e,hB]
    simp [blm]
  | i+1=>by
    have e:(A++B)[A.length+(i+1)]? = B[i+1]? := by rw [List.getElem?_append_right (by omega),Nat.add_sub_cancel_left]
    have ih:=blm_app (A:=A) hB i
    show blm (A++B) ((A.length+(i+1))+1)=_
    rw [blm,e]
    conv=>rhs;rw [blm]
    rw [ih]
def Fd (xs ys:List Ev) (k:Nat):Prop:=∀ n:Int,fdif xs ys n=n+k
theorem fdif_app : ∀ (A X Y : List Ev) (n : Int), fdif (A ++ X) (A ++ Y) n = fdif X Y (n + A.length)
  | [],X,Y,n=>by simp
  | a :: A,X,Y,n=>by
    simp only [List.cons_append,fdif,and_self,if_true,List.length_cons]
    rw [fdif_app A X Y (n+1)]
    congr 1
    omega
theorem Fd.app {A X Y:List Ev} {k:Nat} (h:Fd X Y k):Fd (A++X) (A++Y) (A.length+k):=fun n=>by
  rw [fdif_app,h]
  omega
def brn (x:In):Prop:=x.op=4∨x.op=5∨x.op=9∨x.op=10∨x.op=11
theorem step_ev (x:In) (s:Mc):∃ r,(stepM x s).2=⟨5,s.pc⟩ :: r∧((r=[]∧x.op ≠ 4∧x.op ≠ 5∧x.op ≠ 11)∨∃ e:Ev,r=[e]∧e.kind ≠ 5∧(x.op=4∨x.op=5∨x.op=11)):=by
  obtain ⟨op,a,b,c,d⟩:=x
  by_cases h4:op=4
  · subst h4;exact ⟨_,rfl,.inr ⟨_,rfl,by simp,by simp⟩⟩
  by_cases h5:op=5
  · subst h5;exact ⟨_,rfl,.inr ⟨_,rfl,by simp,by simp⟩⟩
  by_cases h11:op=11
  · subst h11;exact ⟨_,rfl,.inr ⟨_,rfl,by simp,by simp⟩⟩
  refine ⟨[],?_,.inl ⟨rfl,h4,h5,h11⟩⟩
  unfold stepM
  simp only [h4,h5,h11,if_false]
  repeat' split
  all_goals rfl
theorem step_pc (x:In) (s t:Mc) (h:s.pc=t.pc) (h9:x.op ≠ 9) (h10:x.op ≠ 10):(stepM x s).1.pc=(stepM x t).1.pc:=by
  by_cases h1:x.op=1
  · simp [stepM,h1,h]
  by_cases h2:x.op=2
  · simp [stepM,h2,h]
  by_cases h3:x.op=3
  · simp [stepM,h3,h]
  by_cases h4:x.op=4
  · simp [stepM,h4,h]
  by_cases h5:x.op=5
  · simp [stepM,h5,h]
  by_cases h6:x.op=6
  · simp [stepM,h6,h]
  by_cases h7:x.op=7
  · simp [stepM,h7,h]
  by_cases h8:x.op=8
  · simp [stepM,h8,h]
  by_cases h11:x.op=11
  · simp [stepM,h11,h]
  by_cases h13:x.op=13
  · simp [stepM,h13,h]
  simp [stepM,h9,h10,h1,h2,h3,h4,h5,h6,h7,h8,h11,h13,h]
theorem step_br (x:In) (s:Mc) (h:x.op=9∨x.op=10):(stepM x s).2=[⟨5,s.pc⟩]:=by
  unfold stepM
  rcases h with h | h<;>simp [h]
theorem run_head {C : List In} : ∀ (n : Nat) (s : Mc) (q : Mm × List Ev), runM C n s = some q → ∃ r, q.2 = ⟨5, s.pc⟩ :: r
  | 0,s,q,h=>by simp [runM] at h
  | n+1,s,q,h=>by
    obtain ⟨r,hr,_⟩:=step_ev (atC C s.pc) s
    rw [runM] at h
    split at h
    · cases h;exact ⟨r,hr⟩
    · rw [Option.map_eq_some_iff] at h
      obtain ⟨p,hp,rfl⟩:=h
      exact ⟨r++p.2,by simp only;rw [hr];rfl⟩
theorem blame_run {C:List In}:∀ (n n':Nat) (s t:Mc) (q q':Mm × List Ev),s.pc=t.pc→runM C n s=some q→runM C n' t=some q' →
    q.2=q'.2∨∃ k pc:Nat,1≤k∧Fd q.2 q'.2 k∧Fd q'.2 q.2 k∧blm q.2 (blAt q.2 k)=pc∧blm q'.2 (blAt q'.2 k)=pc∧brn (atC C pc)
  | 0,n',s,t,q,q',hpc,h,h'=>by simp [runM] at h
  | n+1,0,s,t,q,q',hpc,h,h'=>by simp [runM] at h'
  | n+1,n' + 1,s,t,q,q',hpc,h,h'=>by
    obtain ⟨x,hx⟩:∃ x,x=atC C s.pc:=⟨_,rfl⟩
    obtain ⟨r,hr,hr2⟩:=step_ev x s
    obtain ⟨r',hr',hr2'⟩:=step_ev x t
    rw [runM,← hx] at h
    rw [runM,← hpc,← hx] at h'
    by_cases h13:x.op=13
    · rw [if_pos h13] at h h'
      cases h
      cases h'
      left
      simp [stepM,h13,hpc]
    · rw [if_neg h13,Option.map_eq_some_iff] at h h'
      obtain ⟨p,hp,rfl⟩:=h
      obtain ⟨p',hp',rfl⟩:=h'
      simp only
      by_cases he:r=r'
      · subst he
        have hA:(stepM x t).2=(stepM x s).2:=by rw [hr,hr',hpc]
        rw [hA]
        by_cases hq:(stepM x s).1.pc=(stepM x t).1.pc
        · rcases blame_run n n' _ _ p p' hq hp hp' with e | ⟨k,pc,h1,h2,h3,h4,h5,h6⟩
          · left;rw [e]
          · right
            obtain ⟨r1,hr1⟩:=run_head _ _ _ hp
            obtain ⟨r2,hr2⟩:=run_head _ _ _ hp'
            refine ⟨(stepM x s).2.length+k,pc,by omega,h2.app,h3.app,?_,?_,h6⟩
            · rw [blAt_app]
              have:=blAt_ge p.2 k
              obtain ⟨j,hj⟩:∃ j,blAt p.2 k=j+1:=⟨blAt p.2 k - 1,by omega⟩
              rw [hj] at h4 ⊢
              rw [blm_app hr1,h4]
            · rw [blAt_app]
              have:=blAt_ge p'.2 k
              obtain ⟨j,hj⟩:∃ j,blAt p'.2 k=j+1:=⟨blAt p'.2 k - 1,by omega⟩
              rw [hj] at h5 ⊢
              rw [blm_app hr2,h5]
        · right
          have hb:x.op=9∨x.op=10:=Classical.byContradiction fun h=>hq (step_pc x s t hpc (fun h9=>h (.inl h9)) (fun h10=>h (.inr h10)))
          obtain ⟨r1,hr1⟩:=run_head _ _ _ hp
          obtain ⟨r2,hr2⟩:=run_head _ _ _ hp'
          rw [step_br x s hb,hr1,hr2]
          have hne:¬ ((stepM x s).1.pc:Int)=(stepM x t).1.pc:=by omega
          have hne':¬ ((stepM x t).1.pc:Int)=(stepM x s).1.pc:=by omega
          refine ⟨1,s.pc,Nat.le_refl _,fun n=>?_,fun n=>?_,?_,?_,?_⟩
          · simp [fdif,hne]
          · simp [fdif,hne']
          · simp [blAt,blm]
          · simp [blAt,blm]
          · rw [← hx];unfold brn;omega
      · rcases hr2 with ⟨h1,h2⟩ | ⟨e,rfl,hk,ho⟩<;>rcases hr2' with ⟨h1',h2'⟩ | ⟨e',rfl,hk',ho'⟩
        · exact absurd (h1.trans h1'.symm) he
        · omega
        · omega
        · right
          rw [hr,hr',← hpc]
          have hne:¬ (e.kind=e'.kind∧e.value=e'.value):=fun h=>he (by
            obtain ⟨k1,v1⟩:=e
            obtain ⟨k2,v2⟩:=e'
            simp only at h
            rw [h.1,h.2])
          have hne':¬ (e'.kind=e.kind∧e'.value=e.value):=fun h=>hne ⟨h.1.symm,h.2.symm⟩
          refine ⟨1,s.pc,Nat.le_refl _,fun n=>?_,fun n=>?_,?_,?_,?_⟩
          · simp [fdif,hne]
          · simp [fdif,hne']
          · simp [blAt,blm,hk]
          · simp [blAt,blm,hk']
          · rw [← hx];unfold brn;omega
def blmC (c:Cd) (a b:Mm):Int :=
  if (runC c a).2.2=true∧(runC c b).2.2=true∧0≤fdif (runC c a).2.1 (runC c b).2.1 0 then blm (runC c a).2.1 (blAt (runC c a).2.1 (fdif (runC c a).2.1 (runC c b).2.1 0).toNat) else -1
theorem runC_some {c:Cd} {m:Mm} (h:(runC c m).2.2=true):∃ (s:Mc) (q:Mm × List Ev),s.pc=0∧runM c.list 20000 s=some q∧(runC c m).2.1=q.2:=by
  unfold runC at h ⊢
  by_cases h1:(codeOK c && memOK c.vars c.arrays m)=true
  · rw [if_pos h1] at h ⊢
    generalize hq:runM c.list 20000 ⟨0,List.replicate 14 0,m⟩=o at h ⊢
    cases o with
    | none=>simp at h
    | some q=>exact ⟨_,q,rfl,hq,rfl⟩
  · rw [if_neg h1] at h
    simp at h
theorem brn_lt {C:List In} {pc:Nat} (h:brn (atC C pc)):pc<C.length:=by
  rcases Nat.lt_or_ge pc C.length with h1 | h1
  · exact h1
  · have e:atC C pc=halt:=by unfold atC;rw [List.getD_eq_getElem?_getD,List.getElem?_eq_none h1];rfl
    rw [e] at h
    unfold brn halt at h
    simp at h
theorem blmC_law (c : Cd) (a b : Mm) : (blmC c a b = -1 ∧ blmC c b a = -1 ∧ ¬ ((runC c a).2.2 = true ∧ (runC c b).2.2 = true ∧ (runC c a).2.1 ≠ (runC c b).2.1)) ∨
    ∃ pc:Nat,blmC c a b=pc∧blmC c b a=pc∧(runC c a).2.2=true∧(runC c b).2.2=true∧(runC c a).2.1 ≠ (runC c b).2.1∧pc<c.list.length∧brn (atC c.list pc):=by
  by_cases h1:(runC c a).2.2=true
  · by_cases h2:(runC c b).2.2=true
    · obtain ⟨s,q,hs,hq,e⟩:=runC_some h1
      obtain ⟨s',q',hs',hq',e'⟩:=runC_some h2
      unfold blmC
      rw [h1,h2,e,e']
      rcases blame_run _ _ s s' q q' (by rw [hs,hs']) hq hq' with h | ⟨k,pc,_,f1,f2,b1,b2,ho⟩
      · left
        rw [h,fdif_same]
        simp
      · right
        have g1:=f1 0
        have g2:=f2 0
        rw [g1,g2]
        have hk:(0+(k:Int)).toNat=k:=by omega
        rw [hk,if_pos ⟨rfl,rfl,by omega⟩,if_pos ⟨rfl,rfl,by omega⟩]
        refine ⟨pc,b1,b2,rfl,rfl,fun h=>?_,brn_lt ho,ho⟩
        rw [h,fdif_same] at g1
        omega
    · left
      refine ⟨if_neg fun h=>h2 h.2.1,if_neg fun h=>h2 h.1,fun h=>h2 h.2.1⟩
  · left
    exact ⟨if_neg fun h=>h1 h.1,if_neg fun h=>h1 h.2.1,fun h=>h1 h.1⟩
end Go.Proofs.YtmjkgjkkpaephaaGreat.CtL
namespace Go.Proofs.YtmjkgjkkpaephaaGreat.CtD
open Go Go.CT CtF CtR
open CtL (blm blAt)
theorem l15Blame (T:List Ev) (n:Nat) (hl:T.length≤mx) (hn:n≤mx):DC Tryz.prog 75 [.c (trD T),DI .i64 n] [] (fun r h=>r=DI .i64 (blm T (blAt T n))∧h=[]):=by
  have hmx:=mx_eq
  have ret:∀ (v:Int) (hp:Hp),v=blm T (blAt T n)→RetOb 0 (fun r h=>r=DI .i64 (blm T (blAt T n))∧h=[]) (DI .i64 v) hp:=fun v hp h=>RetOb.plain (d:=DI .i64 _) ⟨by rw [h],rfl⟩ rfl
  generalize hR:(fun (r:D) (h:List (Option (List C)))=>r=DI .i64 (blm T (blAt T n))∧h=[])=R at ret ⊢
  clear hR
  refine dcZ Tryz.func75 ?_
  simp only [go_sem,trD]
  rcases Nat.lt_or_ge n T.length with hlt | hge
  · obtain ⟨⟨k,v⟩,hx⟩:∃ x,T[n]? = some x:=⟨T[n],by simp [hlt]⟩
    by_cases hk:k=5
    · subst hk
      have hb:blAt T n=n:=by simp [blAt,hx]
      iterate 3 ((try (refine drvZ Tryz.func75 ?_;simp only [go_sem,trD,hlt,hx,Ev.cells]));((with_reducible and_intros)<;>try exact sd))
      refine Go.loopQ (fun j:Nat=>[(0,.c (trD T)),(5,DI .i64 ((j:Int) - 1))]) (fun _=>[]) 1024 (fun j=>j≤n+1∧blm T j=blm T (blAt T n)) (fun j=>j) ?_ (blAt T n) some [] _ ⟨by omega,rfl⟩ ?_
      · rintro j ⟨hj,hI⟩ again
        match j,hj,hI,again with
        | 0,hj,hI,again =>
          simp only [show ((0:Nat):Int) - 1 = -1 from rfl]
          refine drvL Tryz.func75 ?_
          simp only [go_sem,trD]
          iterate 3 ((try (refine drvZ Tryz.func75 ?_;simp only [go_sem,trD]));((with_reducible and_intros)<;>try exact sd))
          exact ret _ _ hI
        | j+1,hj,hI,again =>
          have h0:(0:Int)≤((j+1:Nat):Int) - 1:=by omega
          have h1:((j+1:Nat):Int) - 1=(j:Int):=by omega
          simp only [h1]
          rcases Nat.lt_or_ge j T.length with hlt | hge
          · obtain ⟨⟨k,v⟩,hx⟩:∃ x,T[j]? = some x:=⟨T[j],by simp [hlt]⟩
            by_cases hk:k=5
            · subst hk
              have hI2:v=blm T (blAt T n):=by rw [← hI];simp [blm,hx]
              refine drvL Tryz.func75 ?_
              simp only [go_sem,trD,hlt]
              iterate 4 ((try (refine drvZ Tryz.func75 ?_;simp only [go_sem,trD,hlt,hx,Ev.cells]));((with_reducible and_intros)<;>try exact sd))
              exact ret _ _ hI2
            · have hI2:blm T j=blm T (blAt T n):=by rw [← hI];simp [blm,hx,hk]
              have hk':(k == 5)=false:=by simp [hk]
              refine drvL Tryz.func75 ?_
              simp only [go_sem,trD,hlt]
              iterate 6 ((try (refine drvZ Tryz.func75 ?_;simp only [go_sem,trD,hlt,hx,Ev.cells,hk,hk']));((with_reducible and_intros)<;>try exact sd))
              refine again j some [] _ ⟨by omega,hI2⟩ (by omega) ?_
              simp only [go_sem,TmOK,DM,DMs,CM,CMs,forall_eq,exists_eq_left,Mq,HpOK,LowOK,trD]
              try simp
          · exfalso;omega
      · rw [hb]
        simp only [go_sem,TmOK,DM,DMs,CM,CMs,forall_eq,exists_eq_left,Mq,HpOK,LowOK,trD]
        try simp
    · have hk':(k == 5)=false:=by simp [hk]
      have hb:blAt T n=n+1:=by simp [blAt,hx,hk]
      iterate 6 ((try (refine drvZ Tryz.func75 ?_;simp only [go_sem,trD,hlt,hx,Ev.cells,hk,hk']));((with_reducible and_intros)<;>try exact sd))
      refine Go.loopQ (fun j:Nat=>[(0,.c (trD T)),(5,DI .i64 ((j:Int) - 1))]) (fun _=>[]) 1024 (fun j=>j≤n+1∧blm T j=blm T (blAt T n)) (fun j=>j) ?_ (blAt T n) some [] _ ⟨by omega,rfl⟩ ?_
      · rintro j ⟨hj,hI⟩ again
        match j,hj,hI,again with
        | 0,hj,hI,again =>
          simp only [show ((0:Nat):Int) - 1 = -1 from rfl]
          refine drvL Tryz.func75 ?_
          simp only [go_sem,trD]
          iterate 3 ((try (refine drvZ Tryz.func75 ?_;simp only [go_sem,trD]));((with_reducible and_intros)<;>try exact sd))
          exact ret _ _ hI
        | j+1,hj,hI,again =>
          have h0:(0:Int)≤((j+1:Nat):Int) - 1:=by omega
          have h1:((j+1:Nat):Int) - 1=(j:Int):=by omega
          simp only [h1]
          rcases Nat.lt_or_ge j T.length with hlt | hge
          · obtain ⟨⟨k,v⟩,hx⟩:∃ x,T[j]? = some x:=⟨T[j],by simp [hlt]⟩
            by_cases hk:k=5
            · subst hk
              have hI2:v=blm T (blAt T n):=by rw [← hI];simp [blm,hx]
              refine drvL Tryz.func75 ?_
              simp only [go_sem,trD,hlt]
              iterate 4 ((try (refine drvZ Tryz.func75 ?_;simp only [go_sem,trD,hlt,hx,Ev.cells]));((with_reducible and_intros)<;>try exact sd))
              exact ret _ _ hI2
            · have hI2:blm T j=blm T (blAt T n):=by rw [← hI];simp [blm,hx,hk]
              have hk':(k == 5)=false:=by simp [hk]
              refine drvL Tryz.func75 ?_
              simp only [go_sem,trD,hlt]
              iterate 6 ((try (refine drvZ Tryz.func75 ?_;simp only [go_sem,trD,hlt,hx,Ev.cells,hk,hk']));((with_reducible and_intros)<;>try exact sd))
              refine again j some [] _ ⟨by omega,hI2⟩ (by omega) ?_
              simp only [go_sem,TmOK,DM,DMs,CM,CMs,forall_eq,exists_eq_left,Mq,HpOK,LowOK,trD]
              try simp
          · exfalso;omega
      · rw [hb]
        simp only [go_sem,TmOK,DM,DMs,CM,CMs,forall_eq,exists_eq_left,Mq,HpOK,LowOK,trD]
        try simp
  · have hn:¬ n<T.length:=by omega
    have hb:blAt T n=n:=by simp [blAt,List.getElem?_eq_none hge]
    have hnx:=List.getElem?_eq_none hge
    iterate 6 ((try (refine drvZ Tryz.func75 ?_;simp only [go_sem,trD,hn,hnx]));((with_reducible and_intros)<;>try exact sd))
    refine Go.loopQ (fun j:Nat=>[(0,.c (trD T)),(5,DI .i64 ((j:Int) - 1))]) (fun _=>[]) 1024 (fun j=>j≤n+1∧blm T j=blm T (blAt T n)) (fun j=>j) ?_ (blAt T n) some [] _ ⟨by omega,rfl⟩ ?_
    · rintro j ⟨hj,hI⟩ again
      match j,hj,hI,again with
      | 0,hj,hI,again =>
        simp only [show ((0:Nat):Int) - 1 = -1 from rfl]
        refine drvL Tryz.func75 ?_
        simp only [go_sem,trD]
        iterate 3 ((try (refine drvZ Tryz.func75 ?_;simp only [go_sem,trD]));((with_reducible and_intros)<;>try exact sd))
        exact ret _ _ hI
      | j+1,hj,hI,again =>
        have h0:(0:Int)≤((j+1:Nat):Int) - 1:=by omega
        have h1:((j+1:Nat):Int) - 1=(j:Int):=by omega
        simp only [h1]
        rcases Nat.lt_or_ge j T.length with hlt | hge
        · obtain ⟨⟨k,v⟩,hx⟩:∃ x,T[j]? = some x:=⟨T[j],by simp [hlt]⟩
          by_cases hk:k=5
          · subst hk
            have hI2:v=blm T (blAt T n):=by rw [← hI];simp [blm,hx]
            refine drvL Tryz.func75 ?_
            simp only [go_sem,trD,hlt]
            iterate 4 ((try (refine drvZ Tryz.func75 ?_;simp only [go_sem,trD,hlt,hx,Ev.cells]));((with_reducible and_intros)<;>try exact sd))
            exact ret _ _ hI2
          · have hI2:blm T j=blm T (blAt T n):=by rw [← hI];simp [blm,hx,hk]
            have hk':(k == 5)=false:=by simp [hk]
            refine drvL Tryz.func75 ?_
            simp only [go_sem,trD,hlt]
            iterate 6 ((try (refine drvZ Tryz.func75 ?_;simp only [go_sem,trD,hlt,hx,Ev.cells,hk,hk']));((with_reducible and_intros)<;>try exact sd))
            refine again j some [] _ ⟨by omega,hI2⟩ (by omega) ?_
            simp only [go_sem,TmOK,DM,DMs,CM,CMs,forall_eq,exists_eq_left,Mq,HpOK,LowOK,trD]
            try simp
        · have hn:¬ j<T.length:=by omega
          have hI2:blm T j=blm T (blAt T n):=by rw [← hI];simp [blm,List.getElem?_eq_none hge]
          refine drvL Tryz.func75 ?_
          simp only [go_sem,trD,hn]
          have hnx:=List.getElem?_eq_none hge
          iterate 6 ((try (refine drvZ Tryz.func75 ?_;simp only [go_sem,trD,hn,hnx]));((with_reducible and_intros)<;>try exact sd))
          refine again j some [] _ ⟨by omega,hI2⟩ (by omega) ?_
          simp only [go_sem,TmOK,DM,DMs,CM,CMs,forall_eq,exists_eq_left,Mq,HpOK,LowOK,trD]
          try simp
    · rw [hb]
      simp only [go_sem,TmOK,DM,DMs,CM,CMs,forall_eq,exists_eq_left,Mq,HpOK,LowOK,trD]
      try simp
end Go.Proofs.YtmjkgjkkpaephaaGreat.CtD
namespace Go.Proofs.YtmjkgjkkpaephaaGreat.CtD
open Go Go.CT CtF CtR
end Go.Proofs.YtmjkgjkkpaephaaGreat.CtD
namespace Go.Proofs.YtmjkgjkkpaephaaGreat.CtR
open Go Go.CT CtF
theorem firstDifferenceG (xs ys:List Ev) (hl:xs.length≤mx) (hl2:ys.length≤mx):DC Tryz.prog 74 [.c (trD xs),.c (trD ys)] [] (fun r h=>r=DI .i64 (fdif xs ys 0)∧h=[]):=by
  have hmx:=mx_eq
  have ret:∀ (n:Int) (hp:Hp),n=fdif xs ys 0→RetOb 0 (fun r h=>r=DI .i64 (fdif xs ys 0)∧h=[]) (DI .i64 n) hp:=fun n hp h=>RetOb.plain (d:=DI .i64 _) ⟨by rw [h],rfl⟩ rfl
  generalize hR:(fun (r:D) (h:List (Option (List C)))=>r=DI .i64 (fdif xs ys 0)∧h=[])=R at ret ⊢
  clear hR
  refine dcZ Tryz.func74 ?_
  simp only [go_sem,trD]
  ((try (refine drvZ Tryz.func74 ?_;simp only [go_sem,trD]));((with_reducible and_intros)<;>try exact sd))
  refine Go.loopQ (fun i:Nat=>[(0,.c (trD xs)),(1,.c (trD ys)),(5,DI .i64 i)]) (fun _=>[]) 1024 (fun i=>(i≤xs.length∧i≤ys.length)∧fdif (xs.drop i) (ys.drop i) i=fdif xs ys 0) (fun i=>xs.length - i) ?_ 0 some [] _ ⟨⟨Nat.zero_le _,Nat.zero_le _⟩,rfl⟩ ?_
  · intro i hi again
    have hI:=hi.2
    rcases Nat.lt_or_ge i xs.length with hlt | hge
    · rcases Nat.lt_or_ge i ys.length with hlt2 | hge2
      · obtain ⟨x,hxx⟩:∃ x,xs[i]? = some x:=⟨xs[i],by simp [hlt]⟩
        obtain ⟨y,hyy⟩:∃ y,ys[i]? = some y:=⟨ys[i],by simp [hlt2]⟩
        rw [List.drop_eq_getElem_cons hlt,List.drop_eq_getElem_cons hlt2,(List.getElem?_eq_some_iff.1 hxx).2,(List.getElem?_eq_some_iff.1 hyy).2] at hI
        obtain ⟨xk,xv⟩:=x
        obtain ⟨yk,yv⟩:=y
        simp only [fdif] at hI
        by_cases he:xk=yk∧xv=yv
        · obtain ⟨rfl,rfl⟩:=he
          rw [if_pos ⟨rfl,rfl⟩] at hI
          refine drvL Tryz.func74 ?_
          simp only [go_sem,trD,hlt,hlt2]
          iterate 4 ((try (refine drvZ Tryz.func74 ?_;simp only [go_sem,trD,hlt,hlt2,hxx,hyy,Ev.cells]));((with_reducible and_intros)<;>try exact sd))
          refine again (i+1) some [] _ ⟨⟨hlt,hlt2⟩,by rw [← hI];rfl⟩ (by omega) ?_
          simp only [go_sem,TmOK,DM,DMs,CM,CMs,forall_eq,exists_eq_left,Mq,HpOK,LowOK,trD]
          try simp
        · rw [if_neg he] at hI
          have hd:(decide (xk=yk) && decide (xv=yv))=false:=by
            cases h1:decide (xk=yk) with
            | false=>rfl
            | true =>
              cases h2:decide (xv=yv) with
              | false=>rfl
              | true=>exact absurd ⟨of_decide_eq_true h1,of_decide_eq_true h2⟩ he
          refine drvL Tryz.func74 ?_
          simp only [go_sem,trD,hlt,hlt2]
          iterate 4 ((try (refine drvZ Tryz.func74 ?_;simp only [go_sem,trD,hlt,hlt2,hxx,hyy,Ev.cells,hd]));((with_reducible and_intros)<;>try exact sd))
          exact ret _ _ hI
      · have hn:¬ i<ys.length:=by omega
        have hie:i=ys.length:=by omega
        have hn2:¬ xs.length<ys.length:=by omega
        have hn3:ys.length<xs.length:=by omega
        refine drvL Tryz.func74 ?_
        simp only [go_sem,trD,hlt,hn,hn2,hn3]
        iterate 5 ((try (refine drvZ Tryz.func74 ?_;simp only [go_sem,trD,hlt,hn,hn2,hn3]));((with_reducible and_intros)<;>try exact sd))
        have e2:ys.drop i=[]:=List.drop_of_length_le (by omega)
        refine ret _ _ ?_
        rw [← hI,e2,List.drop_eq_getElem_cons hlt]
        simp only [fdif]
        omega
    · have hn:¬ i<xs.length:=by omega
      have hie:i=xs.length:=by omega
      have e1:xs.drop i=[]:=List.drop_of_length_le (by omega)
      rcases Nat.lt_or_ge xs.length ys.length with h2 | h2
      · have hn3:¬ ys.length<xs.length:=by omega
        refine drvL Tryz.func74 ?_
        simp only [go_sem,trD,hn,h2,hn3]
        iterate 5 ((try (refine drvZ Tryz.func74 ?_;simp only [go_sem,trD,hn,h2,hn3]));((with_reducible and_intros)<;>try exact sd))
        refine ret _ _ ?_
        rw [← hI,e1,List.drop_eq_getElem_cons (show i<ys.length by omega)]
        simp only [fdif]
        omega
      · have hn2:¬ xs.length<ys.length:=by omega
        have hn3:¬ ys.length<xs.length:=by omega
        refine drvL Tryz.func74 ?_
        simp only [go_sem,trD,hn,hn2,hn3]
        iterate 5 ((try (refine drvZ Tryz.func74 ?_;simp only [go_sem,trD,hn,hn2,hn3]));((with_reducible and_intros)<;>try exact sd))
        have e2:ys.drop i=[]:=List.drop_of_length_le (by omega)
        exact ret _ _ (by rw [← hI,e1,e2];rfl)
  · simp only [go_sem,TmOK,DM,DMs,CM,CMs,forall_eq,exists_eq_left,Mq,HpOK,LowOK,trD]
    try simp
end Go.Proofs.YtmjkgjkkpaephaaGreat.CtR
namespace Go.Proofs.YtmjkgjkkpaephaaGreat.CtD
open Go Go.CT CtF CtR
open CtL (In Cd compP compL blmC blmC_law)
theorem ownL_len {p:Pg} (h:progOK p=true):(ownL p).length=(compL p).length:=by
  rw [CtL.compL_len h,ownL,List.length_append,oL,seqO_len (len:=CtL.lenS 5) p.body 0 fun s hs n=>oS_len 5 s ((body_of h).1 s hs) n]
  rfl
def bsP (p:Pg) (a b:Mm):Int:=if (compP p).2=true∧0≤blmC (compP p).1 a b then (mapP p).getD (blmC (compP p).1 a b).toNat 0 else -1
end Go.Proofs.YtmjkgjkkpaephaaGreat.CtD
namespace Go.Proofs.YtmjkgjkkpaephaaGreat.CtD
open Go Go.CT CtF CtR
open CtL (In Cd kindsOf topOf fOK inOK endOK codeOK atC halt)
def slt (k:Nat):UInt8:=if k=1 then 114 else if k=2 then 99 else if k=3 then 118 else if k=4 then 97 else if k=5 then 111 else 116
def sls (op:Int):ByteArray:=⟨(((kindsOf op).filter (fun k => !(k == 0))).map slt).toArray⟩
theorem l6FieldsS (op:Int) (h:1≤op∧op≤13):DC Tryz.prog 196 [DI .i64 op] [] (fun r h=>r=DS (sls op)∧h=[]):=by
  have hmx:=mx_eq
  have key:op=1∨op=2∨op=3∨op=4∨op=5∨op=6∨op=7∨op=8∨op=9∨op=10∨op=11∨op=12∨op=13:=by omega
  rcases key with rfl | rfl | rfl | rfl | rfl | rfl | rfl | rfl | rfl | rfl | rfl | rfl | rfl
  all_goals
    refine dcZ Tryz.func196 ?_
    simp only [go_sem]
    iterate 4 ((try (refine drvZ Tryz.func196 ?_;simp only [go_sem,Int.reduceLE,Int.reduceSub,Int.reduceToNat]));((with_reducible and_intros)<;>try exact sd))
    exact RetOb.plain (d:=DS _) ⟨rfl,rfl⟩ rfl
theorem l6PartsS (x:In):DC Tryz.prog 197 [.agg (inX x)] [] (fun r h=>r = .c (isI [x.a,x.b,x.c,x.d])∧h=[]):=by
  have hmx:=mx_eq
  obtain ⟨op,a,b,c,d⟩:=x
  unfold inX
  refine dcZ Tryz.func197 ?_
  simp only [go_sem]
  iterate 3 ((try (refine drvZ Tryz.func197 ?_;simp only [go_sem]));((with_reducible and_intros)<;>try exact sd))
  refine RetOb.ofQ (fun _=>none) [640] (.c (isI [a,b,c,d])) [] ?_ ⟨rfl,rfl⟩ (by simp)
  simp [isI,enumL,DM,DMs,CM,CMs,HpOK,LowOK,hOf,upd,kf]
theorem l6RangeS (c : Cd) (h1 : c.vars.length ≤ mx) (h2 : c.arrays.length ≤ mx) (h3 : c.list.length ≤ mx) (k : Nat) (hk : 1 ≤ k ∧ k ≤ 6) (n : Int) :
    DC Tryz.prog 198 [.agg (cdC c),.c (.v (.int .u8 (slt k).toNat)),DI .i64 n] [] (fun r h=>r=DB (fOK c.vars.length c.arrays.length c.list.length k n)∧h=[]):=by
  have hmx:=mx_eq
  obtain ⟨vs,ar,ls⟩:=c
  simp only at h1 h2 h3
  have ret:∀ (b:Bool) (hp:Hp),b=fOK vs.length ar.length ls.length k n→RetOb 0 (fun r h=>r=DB (fOK vs.length ar.length ls.length k n)∧h=[]) (DB b) hp:=fun b hp h=>RetOb.plain (d:=DB _) ⟨by rw [h],rfl⟩ rfl
  generalize hR:(fun (r:D) (h:List (Option (List C)))=>r=DB (fOK vs.length ar.length ls.length k n)∧h=[])=R at ret ⊢
  clear hR
  have key:k=1∨k=2∨k=3∨k=4∨k=5∨k=6:=by omega
  unfold cdC
  rcases key with rfl | rfl | rfl | rfl | rfl | rfl
  · rw [show (((slt 1).toNat:Nat):Int)=114 from rfl]
    refine dcZ Tryz.func198 ?_
    simp only [go_sem]
    iterate 10 ((try (refine drvZ Tryz.func198 ?_;simp only [go_sem,List.length_map]));((with_reducible and_intros)<;>try exact sd))
    refine ret _ _ ?_
    rw [Bool.eq_iff_iff];simp [fOK,topOf];omega
  · rw [show (((slt 2).toNat:Nat):Int)=99 from rfl]
    refine dcZ Tryz.func198 ?_
    simp only [go_sem]
    iterate 10 ((try (refine drvZ Tryz.func198 ?_;simp only [go_sem,List.length_map]));((with_reducible and_intros)<;>try exact sd))
    refine ret _ _ ?_
    rw [Bool.eq_iff_iff];simp [fOK,topOf]
  · rw [show (((slt 3).toNat:Nat):Int)=118 from rfl]
    refine dcZ Tryz.func198 ?_
    simp only [go_sem]
    iterate 10 ((try (refine drvZ Tryz.func198 ?_;simp only [go_sem,List.length_map]));((with_reducible and_intros)<;>try exact sd))
    refine ret _ _ ?_
    rw [Bool.eq_iff_iff];simp [fOK,topOf];omega
  · rw [show (((slt 4).toNat:Nat):Int)=97 from rfl]
    refine dcZ Tryz.func198 ?_
    simp only [go_sem]
    iterate 10 ((try (refine drvZ Tryz.func198 ?_;simp only [go_sem,List.length_map]));((with_reducible and_intros)<;>try exact sd))
    refine ret _ _ ?_
    rw [Bool.eq_iff_iff];simp [fOK,topOf];omega
  · rw [show (((slt 5).toNat:Nat):Int)=111 from rfl]
    refine dcZ Tryz.func198 ?_
    simp only [go_sem]
    iterate 10 ((try (refine drvZ Tryz.func198 ?_;simp only [go_sem,List.length_map]));((with_reducible and_intros)<;>try exact sd))
    refine ret _ _ ?_
    rw [Bool.eq_iff_iff];simp [fOK,topOf]
  · rw [show (((slt 6).toNat:Nat):Int)=116 from rfl]
    refine dcZ Tryz.func198 ?_
    simp only [go_sem]
    iterate 10 ((try (refine drvZ Tryz.func198 ?_;simp only [go_sem,List.length_map]));((with_reducible and_intros)<;>try exact sd))
    refine ret _ _ ?_
    rw [Bool.eq_iff_iff];simp [fOK,topOf];omega
theorem sls_len (op:Int) (i:Nat) (h:i<4):(i<(sls op).size) ↔ (kindsOf op).getD i 0 ≠ 0:=by
  have hi:i=0∨i=1∨i=2∨i=3:=by omega
  unfold sls kindsOf
  repeat' split
  all_goals rcases hi with rfl | rfl | rfl | rfl<;>decide
theorem kinds_len (op:Int):(kindsOf op).length=4:=by
  unfold kindsOf
  repeat' split
  all_goals rfl
theorem filt_at : ∀ (l : List Nat) (i : Nat), (∀ j k : Nat, j < k → l.getD k 0 ≠ 0 → l.getD j 0 ≠ 0) → l.getD i 0 ≠ 0 → ((l.filter (fun k => !(k == 0))).map slt)[i]? = some (slt (l.getD i 0))
  | [],i,_,h=>by simp at h
  | a :: r,i,hp,h=>by
    have ha:a ≠ 0:=by
      match i,h with
      | 0,h=>simpa using h
      | i+1,h=>have:=hp 0 (i+1) (by omega) h;simpa using this
    have hf:(a :: r).filter (fun k => !(k == 0))=a :: r.filter (fun k => !(k == 0)):=by simp [ha]
    rw [hf]
    match i,h with
    | 0,h=>simp
    | i+1,h =>
      have ih:=filt_at r i (fun j k hj hk=>by have:=hp (j+1) (k+1) (by omega) (by simpa using hk);simpa using this) (by simpa using h)
      simpa using ih
theorem kinds_pre (op:Int):∀ j k:Nat,j<k→(kindsOf op).getD k 0 ≠ 0→(kindsOf op).getD j 0 ≠ 0:=fun j k hj hk=>by
  have h4:k<4:=by
    rcases Nat.lt_or_ge k 4 with h4 | h4
    · exact h4
    · exfalso
      apply hk
      rw [List.getD_eq_getElem?_getD,List.getElem?_eq_none (by rw [kinds_len];exact h4)];rfl
  have hk':k=1∨k=2∨k=3:=by omega
  have hj':j=0∨j=1∨j=2:=by omega
  revert hk
  unfold kindsOf
  repeat' split
  all_goals (rcases hk' with rfl | rfl | rfl<;>rcases hj' with rfl | rfl | rfl<;>first | omega | decide)
theorem sls_at (op:Int) (i:Nat) (h:(kindsOf op).getD i 0 ≠ 0):(sls op).data.toList.getD i 0=slt ((kindsOf op).getD i 0):=by
  have:=filt_at (kindsOf op) i (kinds_pre op) h
  unfold sls
  rw [List.getD_eq_getElem?_getD]
  simp only
  rw [this];rfl
end Go.Proofs.YtmjkgjkkpaephaaGreat.CtD
namespace Go.Proofs.YtmjkgjkkpaephaaGreat.CtD
open Go Go.CT CtF CtR
open CtL (In Cd Mc stepM kindsOf topOf fOK inOK endOK codeOK)
def mcA (s:Mc):List C:=[I64 s.pc,.msl 0 1 0 14,.msl 1 1 0 s.mem.vals.length,.msl 2 1 0 s.mem.arrays.length]
def exB (s:Mc) (T:List Ev):List (Option (List C)):=[some (s.regs.map I64),some (s.mem.vals.map I64),some (hdr 3 4 s.mem.arrays.length),some (blk0 s.mem.arrays),some (blk1 s.mem.arrays),some (trC T)]
def exB' (s:Mc) (T:List Ev):List (Option (List C)):=[some (s.regs.map I64),some (s.mem.vals.map I64),some (hdr 3 4 s.mem.arrays.length),some (blk0 s.mem.arrays),some (blk1 s.mem.arrays),none,some (trC T)]
def exeR (x:In) (s:Mc) (T:List Ev) (r:D) (h:List (Option (List C))):Prop:=r = .tup [.agg (mcA (stepM x s).1),.c (.msl 6 2 0 (T++(stepM x s).2).length)]∧h=exB' (stepM x s).1 (T++(stepM x s).2)
theorem hdrg0 {k k' n:Nat} (h:0<n):(hdr k k' n)[0]? = some (.msl k 1 0 4):=by
  unfold hdr
  match n,h with
  | n+1,_=>rfl
theorem hdrg1 {k k' n:Nat} (h:1<n):(hdr k k' n)[1]? = some (.msl k' 1 0 4):=by
  unfold hdr
  match n,h with
  | n+2,_=>rfl
theorem hdrgL {k k' n:Nat} (h:n≤2):(hdr k k' n).length=n:=by
  unfold hdr
  match n,h with
  | 0,_=>rfl
  | 1,_=>rfl
  | 2,_=>rfl
def mvN (x:In) (rg:List Int) (pc:Nat):Int:=if x.op=8 then x.a else if (x.op=9∧nth rg x.a=0)∨(x.op=10∧nth rg x.a ≠ 0) then x.b else if x.op=13 then pc else pc+1
theorem l6MoveP (x : In) (rg : List Int) (pc : Nat) (hpc : pc ≤ 400) (hl : rg.length = 14) (ha : x.op ≠ 8 → 0 ≤ x.a ∧ x.a ≤ 13) :
    DC Tryz.prog 201 [.agg (inX x),.c (isI rg),DI .i64 pc] [] (fun r h=>r=DI .i64 (mvN x rg pc)∧h=[]):=by
  have hmx:=mx_eq
  have ret:∀ (v:Int) (hp:Hp),v=mvN x rg pc→RetOb 0 (fun r h=>r=DI .i64 (mvN x rg pc)∧h=[]) (DI .i64 v) hp:=fun v hp h=>RetOb.plain (d:=DI .i64 _) ⟨by rw [h],rfl⟩ rfl
  generalize hR:(fun (r:D) (h:List (Option (List C)))=>r=DI .i64 (mvN x rg pc)∧h=[])=R at ret ⊢
  clear hR
  obtain ⟨op,a,b,c,d⟩:=x
  simp only at ha
  unfold inX
  by_cases h8:op=8
  · subst h8
    refine dcZ Tryz.func201 ?_
    simp only [go_sem]
    iterate 4 ((try (refine drvZ Tryz.func201 ?_;simp only [go_sem]));((with_reducible and_intros)<;>try exact sd))
    refine ret _ _ ?_
    simp [mvN]
  have e8:(op == 8)=false:=by simp [h8]
  have ha0:=ha h8
  have hx:(rg.map fun n=>[I64 n])[a.toNat]? = some [I64 (nth rg a)]:=by
    have h0:=(nth_mem (l:=rg) (i:=a) ha0.1 (by omega)).1
    rw [List.getElem?_map,h0];rfl
  by_cases h9:op=9
  · subst h9
    by_cases hz:nth rg a=0
    · refine dcZ Tryz.func201 ?_
      simp only [go_sem,hx,hl]
      iterate 4 ((try (refine drvZ Tryz.func201 ?_;simp only [go_sem,hx,hl,hz]));((with_reducible and_intros)<;>try exact sd))
      refine ret _ _ ?_
      simp [mvN,hz]
    · have ez:(nth rg a == 0)=false:=by simp [hz]
      refine dcZ Tryz.func201 ?_
      simp only [go_sem,hx,hl]
      iterate 8 ((try (refine drvZ Tryz.func201 ?_;simp only [go_sem,hx,hl,ez]));((with_reducible and_intros)<;>try exact sd))
      refine ret _ _ ?_
      simp [mvN,hz]
  have e9:(op == 9)=false:=by simp [h9]
  by_cases h10:op=10
  · subst h10
    by_cases hz:nth rg a=0
    · have ez:(nth rg a != 0)=false:=by simp [hz]
      refine dcZ Tryz.func201 ?_
      simp only [go_sem,hx,hl]
      iterate 8 ((try (refine drvZ Tryz.func201 ?_;simp only [go_sem,hx,hl,hz,ez]));((with_reducible and_intros)<;>try exact sd))
      refine ret _ _ ?_
      simp [mvN,hz]
    · have ez:(nth rg a != 0)=true:=by simp [hz]
      refine dcZ Tryz.func201 ?_
      simp only [go_sem,hx,hl]
      iterate 6 ((try (refine drvZ Tryz.func201 ?_;simp only [go_sem,hx,hl,ez]));((with_reducible and_intros)<;>try exact sd))
      refine ret _ _ ?_
      simp [mvN,hz]
  have e10:(op == 10)=false:=by simp [h10]
  by_cases h13:op=13
  · subst h13
    refine dcZ Tryz.func201 ?_
    simp only [go_sem,hx,hl]
    iterate 12 ((try (refine drvZ Tryz.func201 ?_;simp only [go_sem,hx,hl]));((with_reducible and_intros)<;>try exact sd))
    refine ret _ _ ?_
    simp [mvN]
  have e13:(op == 13)=false:=by simp [h13]
  refine dcZ Tryz.func201 ?_
  simp only [go_sem,e8,e9,e10,e13,hx,hl]
  iterate 12 ((try (refine drvZ Tryz.func201 ?_;simp only [go_sem,e8,e9,e10,e13,hx,hl]));((with_reducible and_intros)<;>try exact sd))
  refine ret _ _ ?_
  simp [mvN,h8,h9,h10,h13]
theorem mvN_step (c:Cd) {x:In} {s:Mc} (hs:MOK c s) (h:inOK c.vars.length c.arrays.length c.list.length x=true):mvN x (stepM x s).1.regs s.pc=((stepM x s).1.pc:Int):=by
  have hl:=hs.len
  obtain ⟨op,a,b,cc,d⟩:=x
  simp only [inOK,Bool.and_eq_true,decide_eq_true_eq] at h
  obtain ⟨⟨⟨⟨⟨o1,o2⟩,q0⟩,q1⟩,q2⟩,q3⟩:=h
  have key:op=1∨op=2∨op=3∨op=4∨op=5∨op=6∨op=7∨op=8∨op=9∨op=10∨op=11∨op=12∨op=13:=by omega
  rcases key with rfl | rfl | rfl | rfl | rfl | rfl | rfl | rfl | rfl | rfl | rfl | rfl | rfl
  all_goals simp [fOK,topOf,kindsOf] at q0 q1 q2 q3
  all_goals simp [mvN,stepM]
  · omega
  · split
    · omega
    · rfl
  · have hn:nth (s.regs.set a.toNat ((nth s.regs a+255) % 256)) a=(nth s.regs a+255) % 256:=by
      unfold nth
      rw [List.getD_eq_getElem?_getD,List.getElem?_set_self (by omega)];rfl
    rw [hn]
    split
    · simp_all
    · simp_all
      omega
theorem l6MoveO (c : Cd) (x : In) (s : Mc) (hc1 : c.list.length ≤ 400) (hs : MOK c s) (h : inOK c.vars.length c.arrays.length c.list.length x = true) (h14 : (stepM x s).1.regs.length = 14) :
    DC Tryz.prog 201 [.agg (inX x),.c (.msl 0 1 0 14),DI .i64 s.pc] [some ((stepM x s).1.regs.map I64)] (fun r h=>r=DI .i64 (stepM x s).1.pc∧h=[some ((stepM x s).1.regs.map I64)]):=by
  have hpc:=hs.pc
  have hp:=l6MoveP x (stepM x s).1.regs s.pc (by omega) h14 (fun ho=>by
    have h12:=hs.mem.nv12
    have h2:=hs.mem.na2
    simp only [hdC] at h12 h2
    obtain ⟨op,a,b,cc,d⟩:=x
    simp only [inOK,Bool.and_eq_true,decide_eq_true_eq] at h
    obtain ⟨⟨⟨⟨⟨o1,o2⟩,q0⟩,q1⟩,q2⟩,q3⟩:=h
    simp only at ho
    have key:op=1∨op=2∨op=3∨op=4∨op=5∨op=6∨op=7∨op=9∨op=10∨op=11∨op=12∨op=13:=by omega
    simp only
    rcases key with rfl | rfl | rfl | rfl | rfl | rfl | rfl | rfl | rfl | rfl | rfl | rfl<;>simp [fOK,topOf,kindsOf] at q0<;>omega)
  rw [mvN_step c hs h] at hp
  exact DC.borrow [0] (by
    simp [enumL,hOf,hpL,DM,DMs,CM,CMs,isI,inX,h14]
    exact ⟨(flat_I _).symm,fun a _=>rfl⟩) hp
end Go.Proofs.YtmjkgjkkpaephaaGreat.CtD
