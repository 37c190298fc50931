/- Contracts of functions of the program, one behind the other, as plain data: what each call returns and which blocks it leaves. -/
import Derived.Test.YtddanjifhdaebaaNFacts
import Derived.Test.YtddanjifhdaebaaNAi
import Derived.Test.YtddanjifhdaebaaNAj
import Derived.Test.YtddanjifhdaebaaNAk
import Derived.Test.YtddanjifhdaebaaNAm
import Derived.Test.YtddanjifhdaebaaNAl
import Derived.Test.YtddanjifhdaebaaNAo
import Derived.Test.YtddanjifhdaebaaNAn
set_option linter.unusedVariables false
set_option linter.unusedSimpArgs false
set_option linter.unusedSectionVars false
set_option maxHeartbeats 16000000
set_option maxRecDepth 100000
namespace Go.Proofs.Ytddanjifhdaebaa.CtL
variable [Go.CT.Yn]
open Go Go.CT CtF CtR
def blm (T : List Ev) : Nat → Int
  | 0 => -1
  | i+1=>match T[i]? with
    | some e=>if e.kind=5 then e.value else blm T i
    | none=>blm T i
def blAt (T:List Ev) (n:Nat):Nat:=match T[n]? with
  | some e=>if e.kind=5 then n else n+1
  | none=>n
theorem blAt_ge (T:List Ev) (n:Nat):n≤blAt T n:=by
  unfold blAt
  split
  · split<;>omega
  · exact Nat.le_refl _
theorem blAt_app (A B:List Ev) (k:Nat):blAt (A++B) (A.length+k)=A.length+blAt B k:=by
  unfold blAt
  rw [List.getElem?_append_right (by omega),Nat.add_sub_cancel_left]
  cases B[k]? with
  | none=>rfl
  | some e =>
    simp only
    split<;>omega
theorem blm_app {A B : List Ev} {v : Int} {r : List Ev} (hB : B = ⟨5, v⟩ :: r) : ∀ (i : Nat), blm (A ++ B) (A.length + (i + 1)) = blm B (i + 1)
  | 0=>by
    have e:(A++B)[A.length]? = some ⟨5,v⟩:=by rw [List.getElem?_append_right (Nat.le_refl _),hB];simp
    show blm (A++B) (A.length+1)=_
    rw [blm,e,hB]
    simp [blm]
  | i+1=>by
    have e:(A++B)[A.length+(i+1)]? = B[i+1]? := by rw [List.getElem?_append_right (by omega),Nat.add_sub_cancel_left]
    have ih:=blm_app (A:=A) hB i
    show blm (A++B) ((A.length+(i+1))+1)=_
    rw [blm,e]
    conv=>rhs;rw [blm]
    rw [ih]
def Fd (xs ys:List Ev) (k:Nat):Prop:=∀ n:Int,fdif xs ys n=n+k
theorem fdif_app : ∀ (A X Y : List Ev) (n : Int), fdif (A ++ X) (A ++ Y) n = fdif X Y (n + A.length)
  | [],X,Y,n=>by simp
  | a :: A,X,Y,n=>by
    simp only [List.cons_append,fdif,and_self,if_true,List.length_cons]
    rw [fdif_app A X Y (n+1)]
    congr 1
    omega
theorem Fd.app {A X Y:List Ev} {k:Nat} (h:Fd X Y k):Fd (A++X) (A++Y) (A.length+k):=fun n=>by
  rw [fdif_app,h]
  omega
def brn (x:In):Prop:=x.op=4∨x.op=5∨x.op=9∨x.op=10∨x.op=11
theorem step_ev (x:In) (s:Mc):∃ r,(stepM x s).2=⟨5,s.pc⟩ :: r∧((r=[]∧x.op ≠ 4∧x.op ≠ 5∧x.op ≠ 11)∨∃ e:Ev,r=[e]∧e.kind ≠ 5∧(x.op=4∨x.op=5∨x.op=11)):=by
  obtain ⟨op,a,b,c,d⟩:=x
  by_cases h4:op=4
  · subst h4;exact ⟨_,rfl,.inr ⟨_,rfl,by simp,by simp⟩⟩
  by_cases h5:op=5
  · subst h5;exact ⟨_,rfl,.inr ⟨_,rfl,by simp,by simp⟩⟩
  by_cases h11:op=11
  · subst h11;exact ⟨_,rfl,.inr ⟨_,rfl,by simp,by simp⟩⟩
  refine ⟨[],?_,.inl ⟨rfl,h4,h5,h11⟩⟩
  unfold stepM
  simp only [h4,h5,h11,if_false]
  repeat' split
  all_goals rfl
theorem step_pc (x:In) (s t:Mc) (h:s.pc=t.pc) (h9:x.op ≠ 9) (h10:x.op ≠ 10):(stepM x s).1.pc=(stepM x t).1.pc:=by
  by_cases h1:x.op=1
  · simp [stepM,h1,h]
  by_cases h2:x.op=2
  · simp [stepM,h2,h]
  by_cases h3:x.op=3
  · simp [stepM,h3,h]
  by_cases h4:x.op=4
  · simp [stepM,h4,h]
  by_cases h5:x.op=5
  · simp [stepM,h5,h]
  by_cases h6:x.op=6
  · simp [stepM,h6,h]
  by_cases h7:x.op=7
  · simp [stepM,h7,h]
  by_cases h8:x.op=8
  · simp [stepM,h8,h]
  by_cases h11:x.op=11
  · simp [stepM,h11,h]
  by_cases h13:x.op=13
  · simp [stepM,h13,h]
  simp [stepM,h9,h10,h1,h2,h3,h4,h5,h6,h7,h8,h11,h13,h]
theorem step_br (x:In) (s:Mc) (h:x.op=9∨x.op=10):(stepM x s).2=[⟨5,s.pc⟩]:=by
  unfold stepM
  rcases h with h | h<;>simp [h]
theorem run_head {C : List In} : ∀ (n : Nat) (s : Mc) (q : Mm × List Ev), runM C n s = some q → ∃ r, q.2 = ⟨5, s.pc⟩ :: r
  | 0,s,q,h=>by simp [runM] at h
  | n+1,s,q,h=>by
    obtain ⟨r,hr,_⟩:=step_ev (atC C s.pc) s
    rw [runM] at h
    split at h
    · cases h;exact ⟨r,hr⟩
    · rw [Option.map_eq_some_iff] at h
      obtain ⟨p,hp,rfl⟩:=h
      exact ⟨r++p.2,by simp only;rw [hr];rfl⟩
theorem blame_run {C:List In}:∀ (n n':Nat) (s t:Mc) (q q':Mm × List Ev),s.pc=t.pc→runM C n s=some q→runM C n' t=some q' →
    q.2=q'.2∨∃ k pc:Nat,1≤k∧Fd q.2 q'.2 k∧Fd q'.2 q.2 k∧blm q.2 (blAt q.2 k)=pc∧blm q'.2 (blAt q'.2 k)=pc∧brn (atC C pc)
  | 0,n',s,t,q,q',hpc,h,h'=>by simp [runM] at h
  | n+1,0,s,t,q,q',hpc,h,h'=>by simp [runM] at h'
  | n+1,n' + 1,s,t,q,q',hpc,h,h'=>by
    obtain ⟨x,hx⟩:∃ x,x=atC C s.pc:=⟨_,rfl⟩
    obtain ⟨r,hr,hr2⟩:=step_ev x s
    obtain ⟨r',hr',hr2'⟩:=step_ev x t
    rw [runM,← hx] at h
    rw [runM,← hpc,← hx] at h'
    by_cases h13:x.op=13
    · rw [if_pos h13] at h h'
      cases h
      cases h'
      left
      simp [stepM,h13,hpc]
    · rw [if_neg h13,Option.map_eq_some_iff] at h h'
      obtain ⟨p,hp,rfl⟩:=h
      obtain ⟨p',hp',rfl⟩:=h'
      simp only
      by_cases he:r=r'
      · subst he
        have hA:(stepM x t).2=(stepM x s).2:=by rw [hr,hr',hpc]
        rw [hA]
        by_cases hq:(stepM x s).1.pc=(stepM x t).1.pc
        · rcases blame_run n n' _ _ p p' hq hp hp' with e | ⟨k,pc,h1,h2,h3,h4,h5,h6⟩
          · left;rw [e]
          · right
            obtain ⟨r1,hr1⟩:=run_head _ _ _ hp
            obtain ⟨r2,hr2⟩:=run_head _ _ _ hp'
            refine ⟨(stepM x s).2.length+k,pc,by omega,h2.app,h3.app,?_,?_,h6⟩
            · rw [blAt_app]
              have:=blAt_ge p.2 k
              obtain ⟨j,hj⟩:∃ j,blAt p.2 k=j+1:=⟨blAt p.2 k - 1,by omega⟩
              rw [hj] at h4 ⊢
              rw [blm_app hr1,h4]
            · rw [blAt_app]
              have:=blAt_ge p'.2 k
              obtain ⟨j,hj⟩:∃ j,blAt p'.2 k=j+1:=⟨blAt p'.2 k - 1,by omega⟩
              rw [hj] at h5 ⊢
              rw [blm_app hr2,h5]
        · right
          have hb:x.op=9∨x.op=10:=Classical.byContradiction fun h=>hq (step_pc x s t hpc (fun h9=>h (.inl h9)) (fun h10=>h (.inr h10)))
          obtain ⟨r1,hr1⟩:=run_head _ _ _ hp
          obtain ⟨r2,hr2⟩:=run_head _ _ _ hp'
          rw [step_br x s hb,hr1,hr2]
          have hne:¬ ((stepM x s).1.pc:Int)=(stepM x t).1.pc:=by omega
          have hne':¬ ((stepM x t).1.pc:Int)=(stepM x s).1.pc:=by omega
          refine ⟨1,s.pc,Nat.le_refl _,fun n=>?_,fun n=>?_,?_,?_,?_⟩
          · simp [fdif,hne]
          · simp [fdif,hne']
          · simp [blAt,blm]
          · simp [blAt,blm]
          · rw [← hx];unfold brn;omega
      · rcases hr2 with ⟨h1,h2⟩ | ⟨e,rfl,hk,ho⟩<;>rcases hr2' with ⟨h1',h2'⟩ | ⟨e',rfl,hk',ho'⟩
        · exact absurd (h1.trans h1'.symm) he
        · omega
        · omega
        · right
          rw [hr,hr',← hpc]
          have hne:¬ (e.kind=e'.kind∧e.value=e'.value):=fun h=>he (by
            obtain ⟨k1,v1⟩:=e
            obtain ⟨k2,v2⟩:=e'
            simp only at h
            rw [h.1,h.2])
          have hne':¬ (e'.kind=e.kind∧e'.value=e.value):=fun h=>hne ⟨h.1.symm,h.2.symm⟩
          refine ⟨1,s.pc,Nat.le_refl _,fun n=>?_,fun n=>?_,?_,?_,?_⟩
          · simp [fdif,hne]
          · simp [fdif,hne']
          · simp [blAt,blm,hk]
          · simp [blAt,blm,hk']
          · rw [← hx];unfold brn;omega
def blmC (c:Cd) (a b:Mm):Int :=
  if (runC c a).2.2=true∧(runC c b).2.2=true∧0≤fdif (runC c a).2.1 (runC c b).2.1 0 then blm (runC c a).2.1 (blAt (runC c a).2.1 (fdif (runC c a).2.1 (runC c b).2.1 0).toNat) else -1
theorem runC_some {c:Cd} {m:Mm} (h:(runC c m).2.2=true):∃ (s:Mc) (q:Mm × List Ev),s.pc=0∧runM c.list 20000 s=some q∧(runC c m).2.1=q.2:=by
  unfold runC at h ⊢
  by_cases h1:(codeOK c && memOK c.vars c.arrays m)=true
  · rw [if_pos h1] at h ⊢
    generalize hq:runM c.list 20000 ⟨0,List.replicate 14 0,m⟩=o at h ⊢
    cases o with
    | none=>simp at h
    | some q=>exact ⟨_,q,rfl,hq,rfl⟩
  · rw [if_neg h1] at h
    simp at h
theorem brn_lt {C:List In} {pc:Nat} (h:brn (atC C pc)):pc<C.length:=by
  rcases Nat.lt_or_ge pc C.length with h1 | h1
  · exact h1
  · have e:atC C pc=halt:=by unfold atC;rw [List.getD_eq_getElem?_getD,List.getElem?_eq_none h1];rfl
    rw [e] at h
    unfold brn halt at h
    simp at h
theorem blmC_law (c : Cd) (a b : Mm) : (blmC c a b = -1 ∧ blmC c b a = -1 ∧ ¬ ((runC c a).2.2 = true ∧ (runC c b).2.2 = true ∧ (runC c a).2.1 ≠ (runC c b).2.1)) ∨
    ∃ pc:Nat,blmC c a b=pc∧blmC c b a=pc∧(runC c a).2.2=true∧(runC c b).2.2=true∧(runC c a).2.1 ≠ (runC c b).2.1∧pc<c.list.length∧brn (atC c.list pc):=by
  by_cases h1:(runC c a).2.2=true
  · by_cases h2:(runC c b).2.2=true
    · obtain ⟨s,q,hs,hq,e⟩:=runC_some h1
      obtain ⟨s',q',hs',hq',e'⟩:=runC_some h2
      unfold blmC
      rw [h1,h2,e,e']
      rcases blame_run _ _ s s' q q' (by rw [hs,hs']) hq hq' with h | ⟨k,pc,_,f1,f2,b1,b2,ho⟩
      · left
        rw [h,fdif_same]
        simp
      · right
        have g1:=f1 0
        have g2:=f2 0
        rw [g1,g2]
        have hk:(0+(k:Int)).toNat=k:=by omega
        rw [hk,if_pos ⟨rfl,rfl,by omega⟩,if_pos ⟨rfl,rfl,by omega⟩]
        refine ⟨pc,b1,b2,rfl,rfl,fun h=>?_,brn_lt ho,ho⟩
        rw [h,fdif_same] at g1
        omega
    · left
      refine ⟨if_neg fun h=>h2 h.2.1,if_neg fun h=>h2 h.1,fun h=>h2 h.2.1⟩
  · left
    exact ⟨if_neg fun h=>h1 h.1,if_neg fun h=>h1 h.2.1,fun h=>h1 h.1⟩
end Go.Proofs.Ytddanjifhdaebaa.CtL
namespace Go.Proofs.Ytddanjifhdaebaa.CtD
open Go Go.CT CtF CtR
variable [Yn]
open CtL (blm blAt)
theorem l15Blame (T:List Ev) (n:Nat) (hl:T.length≤mx) (hn:n≤mx):DC Try.prog 114 [.c (trD T),DI .i64 n] [] (fun r h=>r=DI .i64 (blm T (blAt T n))∧h=[]):=by
  have hmx:=mx_eq
  have ret:∀ (v:Int) (hp:Hp),v=blm T (blAt T n)→RetOb 0 (fun r h=>r=DI .i64 (blm T (blAt T n))∧h=[]) (DI .i64 v) hp:=fun v hp h=>RetOb.plain (d:=DI .i64 _) ⟨by rw [h],rfl⟩ rfl
  generalize hR:(fun (r:D) (h:List (Option (List C)))=>r=DI .i64 (blm T (blAt T n))∧h=[])=R at ret ⊢
  clear hR
  refine dcZ Try.func114 ?_
  simp only [go_sem,trD]
  rcases Nat.lt_or_ge n T.length with hlt | hge
  · obtain ⟨⟨k,v⟩,hx⟩:∃ x,T[n]? = some x:=⟨T[n],by simp [hlt]⟩
    by_cases hk:k=5
    · subst hk
      have hb:blAt T n=n:=by simp [blAt,hx]
      iterate 3 ((try (refine drvZ Try.func114 ?_;simp only [go_sem,trD,hlt,hx,Ev.cells]));((with_reducible and_intros)<;>try exact sd))
      refine Go.loopQ (fun j:Nat=>[(0,.c (trD T)),(5,DI .i64 ((j:Int) - 1))]) (fun _=>[]) 1024 (fun j=>j≤n+1∧blm T j=blm T (blAt T n)) (fun j=>j) ?_ (blAt T n) some [] _ ⟨by omega,rfl⟩ ?_
      · rintro j ⟨hj,hI⟩ again
        match j,hj,hI,again with
        | 0,hj,hI,again =>
          simp only [show ((0:Nat):Int) - 1 = -1 from rfl]
          refine drvL Try.func114 ?_
          simp only [go_sem,trD]
          iterate 3 ((try (refine drvZ Try.func114 ?_;simp only [go_sem,trD]));((with_reducible and_intros)<;>try exact sd))
          exact ret _ _ hI
        | j+1,hj,hI,again =>
          have h0:(0:Int)≤((j+1:Nat):Int) - 1:=by omega
          have h1:((j+1:Nat):Int) - 1=(j:Int):=by omega
          simp only [h1]
          rcases Nat.lt_or_ge j T.length with hlt | hge
          · obtain ⟨⟨k,v⟩,hx⟩:∃ x,T[j]? = some x:=⟨T[j],by simp [hlt]⟩
            by_cases hk:k=5
            · subst hk
              have hI2:v=blm T (blAt T n):=by rw [← hI];simp [blm,hx]
              refine drvL Try.func114 ?_
              simp only [go_sem,trD,hlt]
              iterate 4 ((try (refine drvZ Try.func114 ?_;simp only [go_sem,trD,hlt,hx,Ev.cells]));((with_reducible and_intros)<;>try exact sd))
              exact ret _ _ hI2
            · have hI2:blm T j=blm T (blAt T n):=by rw [← hI];simp [blm,hx,hk]
              have hk':(k == 5)=false:=by simp [hk]
              refine drvL Try.func114 ?_
              simp only [go_sem,trD,hlt]
              iterate 6 ((try (refine drvZ Try.func114 ?_;simp only [go_sem,trD,hlt,hx,Ev.cells,hk,hk']));((with_reducible and_intros)<;>try exact sd))
              refine again j some [] _ ⟨by omega,hI2⟩ (by omega) ?_
              simp only [go_sem,TmOK,DM,DMs,CM,CMs,forall_eq,exists_eq_left,Mq,HpOK,LowOK,trD]
              try simp
          · exfalso;omega
      · rw [hb]
        simp only [go_sem,TmOK,DM,DMs,CM,CMs,forall_eq,exists_eq_left,Mq,HpOK,LowOK,trD]
        try simp
    · have hk':(k == 5)=false:=by simp [hk]
      have hb:blAt T n=n+1:=by simp [blAt,hx,hk]
      iterate 6 ((try (refine drvZ Try.func114 ?_;simp only [go_sem,trD,hlt,hx,Ev.cells,hk,hk']));((with_reducible and_intros)<;>try exact sd))
      refine Go.loopQ (fun j:Nat=>[(0,.c (trD T)),(5,DI .i64 ((j:Int) - 1))]) (fun _=>[]) 1024 (fun j=>j≤n+1∧blm T j=blm T (blAt T n)) (fun j=>j) ?_ (blAt T n) some [] _ ⟨by omega,rfl⟩ ?_
      · rintro j ⟨hj,hI⟩ again
        match j,hj,hI,again with
        | 0,hj,hI,again =>
          simp only [show ((0:Nat):Int) - 1 = -1 from rfl]
          refine drvL Try.func114 ?_
          simp only [go_sem,trD]
          iterate 3 ((try (refine drvZ Try.func114 ?_;simp only [go_sem,trD]));((with_reducible and_intros)<;>try exact sd))
          exact ret _ _ hI
        | j+1,hj,hI,again =>
          have h0:(0:Int)≤((j+1:Nat):Int) - 1:=by omega
          have h1:((j+1:Nat):Int) - 1=(j:Int):=by omega
          simp only [h1]
          rcases Nat.lt_or_ge j T.length with hlt | hge
          · obtain ⟨⟨k,v⟩,hx⟩:∃ x,T[j]? = some x:=⟨T[j],by simp [hlt]⟩
            by_cases hk:k=5
            · subst hk
              have hI2:v=blm T (blAt T n):=by rw [← hI];simp [blm,hx]
              refine drvL Try.func114 ?_
              simp only [go_sem,trD,hlt]
              iterate 4 ((try (refine drvZ Try.func114 ?_;simp only [go_sem,trD,hlt,hx,Ev.cells]));((with_reducible and_intros)<;>try exact sd))
              exact ret _ _ hI2
            · have hI2:blm T j=blm T (blAt T n):=by rw [← hI];simp [blm,hx,hk]
              have hk':(k == 5)=false:=by simp [hk]
              refine drvL Try.func114 ?_
              simp only [go_sem,trD,hlt]
              iterate 6 ((try (refine drvZ Try.func114 ?_;simp only [go_sem,trD,hlt,hx,Ev.cells,hk,hk']));((with_reducible and_intros)<;>try exact sd))
              refine again j some [] _ ⟨by omega,hI2⟩ (by omega) ?_
              simp only [go_sem,TmOK,DM,DMs,CM,CMs,forall_eq,exists_eq_left,Mq,HpOK,LowOK,trD]
              try simp
          · exfalso;omega
      · rw [hb]
        simp only [go_sem,TmOK,DM,DMs,CM,CMs,forall_eq,exists_eq_left,Mq,HpOK,LowOK,trD]
        try simp
  · have hn:¬ n<T.length:=by omega
    have hb:blAt T n=n:=by simp [blAt,List.getElem?_eq_none hge]
    have hnx:=List.getElem?_eq_none hge
    iterate 6 ((try (refine drvZ Try.func114 ?_;simp only [go_sem,trD,hn,hnx]));((with_reducible and_intros)<;>try exact sd))
    refine Go.loopQ (fun j:Nat=>[(0,.c (trD T)),(5,DI .i64 ((j:Int) - 1))]) (fun _=>[]) 1024 (fun j=>j≤n+1∧blm T j=blm T (blAt T n)) (fun j=>j) ?_ (blAt T n) some [] _ ⟨by omega,rfl⟩ ?_
    · rintro j ⟨hj,hI⟩ again
      match j,hj,hI,again with
      | 0,hj,hI,again =>
        simp only [show ((0:Nat):Int) - 1 = -1 from rfl]
        refine drvL Try.func114 ?_
        simp only [go_sem,trD]
        iterate 3 ((try (refine drvZ Try.func114 ?_;simp only [go_sem,trD]));((with_reducible and_intros)<;>try exact sd))
        exact ret _ _ hI
      | j+1,hj,hI,again =>
        have h0:(0:Int)≤((j+1:Nat):Int) - 1:=by omega
        have h1:((j+1:Nat):Int) - 1=(j:Int):=by omega
        simp only [h1]
        rcases Nat.lt_or_ge j T.length with hlt | hge
        · obtain ⟨⟨k,v⟩,hx⟩:∃ x,T[j]? = some x:=⟨T[j],by simp [hlt]⟩
          by_cases hk:k=5
          · subst hk
            have hI2:v=blm T (blAt T n):=by rw [← hI];simp [blm,hx]
            refine drvL Try.func114 ?_
            simp only [go_sem,trD,hlt]
            iterate 4 ((try (refine drvZ Try.func114 ?_;simp only [go_sem,trD,hlt,hx,Ev.cells]));((with_reducible and_intros)<;>try exact sd))
            exact ret _ _ hI2
          · have hI2:blm T j=blm T (blAt T n):=by rw [← hI];simp [blm,hx,hk]
            have hk':(k == 5)=false:=by simp [hk]
            refine drvL Try.func114 ?_
            simp only [go_sem,trD,hlt]
            iterate 6 ((try (refine drvZ Try.func114 ?_;simp only [go_sem,trD,hlt,hx,Ev.cells,hk,hk']));((with_reducible and_intros)<;>try exact sd))
            refine again j some [] _ ⟨by omega,hI2⟩ (by omega) ?_
            simp only [go_sem,TmOK,DM,DMs,CM,CMs,forall_eq,exists_eq_left,Mq,HpOK,LowOK,trD]
            try simp
        · have hn:¬ j<T.length:=by omega
          have hI2:blm T j=blm T (blAt T n):=by rw [← hI];simp [blm,List.getElem?_eq_none hge]
          refine drvL Try.func114 ?_
          simp only [go_sem,trD,hn]
          have hnx:=List.getElem?_eq_none hge
          iterate 6 ((try (refine drvZ Try.func114 ?_;simp only [go_sem,trD,hn,hnx]));((with_reducible and_intros)<;>try exact sd))
          refine again j some [] _ ⟨by omega,hI2⟩ (by omega) ?_
          simp only [go_sem,TmOK,DM,DMs,CM,CMs,forall_eq,exists_eq_left,Mq,HpOK,LowOK,trD]
          try simp
    · rw [hb]
      simp only [go_sem,TmOK,DM,DMs,CM,CMs,forall_eq,exists_eq_left,Mq,HpOK,LowOK,trD]
      try simp
def SmN (m:Mm):Prop:=m.vals.length≤14∧m.arrays.length≤2∧∀ a ∈ m.arrays,a.length≤4
def Bnt (m m':Mm):Prop:=∀ vs ar:List Int,memOK vs ar m=true→memOK vs ar m'=true→m'=m
theorem Bnt.refl (m:Mm):Bnt m m:=fun _ _ _ _=>rfl
theorem memOK_parts {vs ar:List Int} {m:Mm} (h:memOK vs ar m=true):m.vals.length=vs.length∧m.arrays.length=ar.length∧(∀ x ∈ m.vals,0≤x∧x≤255)∧∀ a ∈ m.arrays,a.length=4:=by
  have h2:=memOK_len h
  refine ⟨h2.1,h2.2.1,?_,h2.2.2⟩
  simp only [memOK,Bool.and_eq_true,vals01] at h
  have:=h.1.2
  simp at this
  exact this
theorem Bnt.long {va:List Int} {arr:List (List Int)} (x:Int):Bnt ⟨va,arr⟩ ⟨va++[x],arr⟩:=fun vs ar h h'=>by
  have h1:=(memOK_parts h).1
  have h2:=(memOK_parts h').1
  simp at h1 h2
  omega
theorem Bnt.bad {x w:Int} {r:List Int} {arr:List (List Int)} (hw:w ∈ ([-1,256,9223372036854775807]:List Int)):Bnt ⟨x :: r,arr⟩ ⟨w :: r,arr⟩:=fun vs ar h h'=>by
  have h2:=(memOK_parts h').2.2.1 w (by simp)
  simp at hw
  omega
theorem Bnt.short {va:List Int} {arr arr':List (List Int)} {a:List Int} (h3:a.length=3):Bnt ⟨va,arr⟩ ⟨va,a :: arr'⟩:=fun vs ar h h'=>by
  have h2:=(memOK_parts h').2.2.2 a (by simp)
  omega
theorem Bnt.none {m:Mm}:Bnt m ⟨[],[]⟩:=fun vs ar h h'=>by
  have h1:=memOK_parts h
  have h2:=memOK_parts h'
  obtain ⟨va,arr⟩:=m
  simp at h1 h2
  have e1:va=[]:=List.length_eq_zero_iff.1 (by omega)
  have e2:arr=[]:=List.length_eq_zero_iff.1 (by omega)
  rw [e1,e2]
def bnR (bs:List Int) (n:Nat) (m0:Mm) (r:D) (h:List (Option (List C))):Prop:=∃ m:Mm,r = .agg m.cells∧SmN m∧Bnt m0 m∧rdL bs n 5 h
theorem l3BendB (bs:List Int) (n:Nat) (m:Mm) (hb:Fits .u8 bs) (hl:bs.length≤2000) (hn:n≤274877906944) (hv:m.vals.length≤13) (ha:m.arrays.length≤2) (h4:∀ a ∈ m.arrays,a.length=4):DC Try.prog 111 [.c (.ptr 0 0),.agg m.cells] [some (rdr bs n)] (bnR bs n m):=by
  have hmx:=mx_eq
  have hcp:=l3Copy m (by omega) ha h4
  generalize hR:bnR bs n m=R
  unfold memB at hcp
  obtain ⟨va,arr⟩:=m
  have hv:va.length≤13:=hv
  have ha:arr.length≤2:=ha
  have h4:∀ a ∈ arr,a.length=4:=h4
  have hfin:∀ (k0 nv na:Nat) (n':Nat) (va':List Int) (hp:Hp),va'.length≤14→Bnt ⟨va,arr⟩ ⟨va',arr⟩→n≤n'→n'≤n+5→hp 0=some (some (rdr bs n'))→hp k0=some (some (va'.map I64))→hp 194=some (some (hdr 195 196 arr.length))→hp 195=some (some (blk0 arr))→hp 196=some (some (blk1 arr))→nv=va'.length→na=arr.length →
      (k0 ≠ 194∧k0 ≠ 195∧k0 ≠ 196∧0 ≠ k0)→RetOb 1 R (.agg [.msl k0 1 0 nv,.msl 194 1 0 na]) hp:=fun k0 nv na n' va' hp g1 gb g2 g3 g4 g5 g6 g7 g8 g9 g10 ⟨e1,e2,e3,e4⟩ =>
    RetOb.memK (m := ⟨va', arr⟩) (k2 := 195) (k3 := 196) ha (by rw [← hR]; exact ⟨⟨va', arr⟩, rfl, ⟨g1, ha, fun a h => by have := h4 a h; omega⟩, gb, n', g2, g3, rfl⟩) (rdr_kf bs n') g4 g5 (by rw [g6, hdr_hdA _ _ _ ha h4]) g7 g8 g9 g10
      ⟨e1,e2,e3,by decide,by decide,by decide,e4,by decide,by decide,by decide⟩
  refine dcZ Try.func111 ?_
  simp only [go_sem,Mm.cells,rdr]
  ((try (refine drvZ Try.func111 ?_;simp only [go_sem,rdr]));((with_reducible and_intros)<;>try exact sd))
  refine XK.callG [] hcp ok116 (fun i' x h=>by simp at h) (hbT ()) (fun d h' ⟨_,e⟩=>by subst e;simp) ?_
  rintro _ _ ⟨rfl,rfl⟩ _
  iterate 3 ((try (refine drvZ Try.func111 ?_;simp only [go_sem,renCs_I,renCs_hdr,renCs_b0,renCs_b1,rdr]));((with_reducible and_intros)<;>try exact sd))
  refine XK.callG [0] (pick bs n 60 hb hl (by omega) (by simp only [InK];omega)) ok158 (hhp_one rfl) (hbT ()) (fun d h' ⟨v,_,_,e⟩=>by subst e;simp) ?_
  rintro _ _ ⟨v,rfl,hpv,rfl⟩ _
  have hpv:v=0∨v=1∨v=2∨v=3∨(v ≠ 0∧v ≠ 1∧v ≠ 2∧v ≠ 3):=by omega
  rcases hpv with rfl | rfl | rfl | rfl | ⟨h0,h1,h2,h3⟩
  · iterate 4 ((try (refine drvZ Try.func111 ?_;simp only [go_sem,rdr]));((with_reducible and_intros)<;>try exact sd))
    exact hfin 833 _ _ (n+1) (va++[0]) _ (by simp;omega) (Bnt.long _) (by omega) (by omega) rfl (by rw [i_snoc];rfl) rfl rfl rfl (by simp) rfl (by decide)
  · cases va with
    | nil =>
      have hz:((0:Int)<0)=False:=eq_false (by omega)
      iterate 5 ((try (refine drvZ Try.func111 ?_;simp only [go_sem,rdr,Int.natCast_zero,hz]));((with_reducible and_intros)<;>try exact sd))
      exact hfin 193 _ _ (n+1) [] _ (by simp) (Bnt.refl _) (by omega) (by omega) rfl rfl rfl rfl rfl rfl rfl (by decide)
    | cons x r =>
      have hz:((0:Int)<(r.length:Int)+1)=True:=eq_true (by omega)
      have hv:r.length+1≤13:=hv
      iterate 5 ((try (refine drvZ Try.func111 ?_;simp only [go_sem,rdr,hz]));((with_reducible and_intros)<;>try exact sd))
      refine XK.callG [0,1217] (numO bs (n+1) [-1,256,9223372036854775807] hb hl (by omega) (by decide) (by decide)) ok159 (hhp2 rfl rfl) (hbT ()) (fun d h' ⟨_,_,_,e⟩=>by subst e;simp) ?_ (fun _=>⟨by kernel_rfl,_,_,⟨-1,rfl,by simp,rfl⟩,by simp⟩)
      rintro _ _ ⟨w,rfl,hw,rfl⟩ _
      iterate 5 ((try (refine drvZ Try.func111 ?_;simp only [go_sem,rdr,hz]));((with_reducible and_intros)<;>try exact sd))
      exact hfin 193 _ _ (n+2) (w :: r) _ (by simp;omega) (Bnt.bad hw) (by omega) (by omega) rfl rfl rfl rfl rfl rfl rfl (by decide)
  · match arr,ha,h4 with
    | [],ha,h4 =>
      have hz:((0:Int)<0)=False:=eq_false (by omega)
      iterate 6 ((try (refine drvZ Try.func111 ?_;simp only [go_sem,rdr,Int.natCast_zero,hz]));((with_reducible and_intros)<;>try exact sd))
      exact hfin 193 _ _ (n+1) va _ (by omega) (Bnt.refl _) (by omega) (by omega) rfl rfl rfl rfl rfl rfl rfl (by decide)
    | a :: rest,ha,h4 =>
      have hz:((0:Int)<(rest.length:Int)+1)=True:=eq_true (by omega)
      have ha4:a.length=4:=h4 a (by simp)
      have hrl:rest.length+1≤2:=ha
      iterate 6 ((try (refine drvZ Try.func111 ?_;simp only [go_sem,rdr,hz,hdr]));((with_reducible and_intros)<;>try exact sd))
      have hsp:a.map I64=(a.take 3).map I64++(a.drop 3).map I64:=by rw [← List.map_append,List.take_append_drop]
      refine RetOb.shrink (k:=195) (cs:=(a.take 3).map I64) (ds:=(a.drop 3).map I64) ?_ ?_
      · rw [← hsp];rfl
      have ha3:(a.take 3).length=3:=by rw [List.length_take];omega
      match rest,hrl with
      | [],_ =>
        exact RetOb.memK (m:=⟨va,[a.take 3]⟩) (k0:=193) (k1:=194) (k2:=195) (k3:=196) (rc:=rdr bs ((n+1:Nat):Int)) (by simp) (by rw [← hR];exact ⟨⟨va,[a.take 3]⟩,rfl,⟨by simp only;omega,by simp,by simp;omega⟩,Bnt.short ha3,n+1,by omega,by omega,rfl⟩) (rdr_kf _ _) rfl rfl (by simp [upd,hdA,ha3]) rfl rfl rfl rfl (by decide)
      | [b],_ =>
        have hb4:b.length=4:=h4 b (by simp)
        exact RetOb.memK (m:=⟨va,[a.take 3,b]⟩) (k0:=193) (k1:=194) (k2:=195) (k3:=196) (rc:=rdr bs ((n+1:Nat):Int)) (by simp) (by rw [← hR];exact ⟨⟨va,[a.take 3,b]⟩,rfl,⟨by simp only;omega,by simp,by simp [hb4];omega⟩,Bnt.short ha3,n+1,by omega,by omega,rfl⟩) (rdr_kf _ _) rfl rfl (by simp [upd,hdA,ha3,hb4]) rfl rfl rfl rfl (by decide)
  · iterate 6 ((try (refine drvZ Try.func111 ?_;simp only [go_sem,rdr]));((with_reducible and_intros)<;>try exact sd))
    refine RetOb.ofQ (fun j=>if j=0 then some 0 else none) [] (.agg (Mm.cells ⟨[],[]⟩)) [some (rdr bs ((n+1:Nat):Int))] ?_ ?_ (by simp)
    · simp [enumL,hOf,DM,DMs,CM,CMs,HpOK,LowOK,upd,rdr,Mm.cells,isI,kf]
    · rw [← hR];exact ⟨⟨[],[]⟩,rfl,⟨by simp,by simp,by simp⟩,Bnt.none,n+1,by omega,by omega,rfl⟩
  · have e0:(v == 0)=false:=by simp [h0]
    have e1:(v == 1)=false:=by simp [h1]
    have e2:(v == 2)=false:=by simp [h2]
    have e3:(v == 3)=false:=by simp [h3]
    iterate 6 ((try (refine drvZ Try.func111 ?_;simp only [go_sem,rdr,h0,h1,h2,h3,e0,e1,e2,e3]));((with_reducible and_intros)<;>try exact sd))
    exact hfin 193 _ _ (n+1) va _ (by omega) (Bnt.refl _) (by omega) (by omega) rfl rfl rfl rfl rfl rfl rfl (by decide)
structure MemG (p : Pg) (m : Mm) : Prop where
  nv:m.vals.length=p.vars.length
  na:m.arrays.length=p.arrays.length
  val:∀ x ∈ m.vals,0≤x∧x≤255
  arr:∀ a ∈ m.arrays,a.length=4∧∀ x ∈ a,0≤x∧x≤255
def mgR (bs:List Int) (n:Nat) (p:Pg) (r:D) (h:List (Option (List C))):Prop:=∃ m:Mm,r = .agg m.cells∧MemG p m∧rdL bs n 30 h
theorem l3MemoryG (bs:List Int) (n:Nat) (p:Pg) (hb:Fits .u8 bs) (hl:bs.length≤2000) (hn:n≤274877906944) (hp:p.vars.length≤13) (hp2:p.arrays.length≤2):DC Try.prog 110 [.c (.ptr 0 0),.agg p.cells] [some (rdr bs n)] (mgR bs n p):=by
  have hmx:=mx_eq
  have hval:=fun n h=>l3Value bs n hb hl h
  generalize hR:mgR bs n p=R
  obtain ⟨vs,ar,bd⟩:=p
  have hp:vs.length≤13:=hp
  have hp2:ar.length≤2:=hp2
  refine dcZ Try.func110 ?_
  simp only [go_sem,rdr]
  ((try (refine drvZ Try.func110 ?_;simp only [go_sem,rdr]));((with_reducible and_intros)<;>try exact sd))
  refine Go.loopQ (fun x : Nat × List Int => [(0, .c (.ptr 0 0)), (3, .c (.ptr 1 0)), (4, .c (.ptr 65 0)), (5, .c (.ptr 66 0)), (6, DI .i64 x.2.length)])
    (fun x=>[(0,some (rdr bs x.1)),(1,some (Pg.cells ⟨vs,ar,bd⟩)),(65,some [.v (.slice none 0 0),.v (.slice none 0 0)]),(66,some [.msl 67 1 0 x.2.length,.v (.slice none 0 0)]),(67,some (x.2.map I64))])
    4096 (fun x=>x.2.length≤vs.length∧n≤x.1∧x.1≤n+x.2.length∧∀ y ∈ x.2,0≤y∧y≤255) (fun x=>vs.length - x.2.length) ?_ (n,[]) (fun j=>if j=66 then some 193 else if j=67 then none else some j) [] _ (by simp) ?_
  · rintro ⟨pos,l⟩ ⟨hi1,hi2,hi3,hi4⟩ again
    simp only at hi1 hi2 hi3 hi4
    rcases Nat.lt_or_ge l.length vs.length with hlt | hge
    · refine drvL Try.func110 ?_
      simp only [go_sem,rdr,hlt]
      iterate 3 ((try (refine drvZ Try.func110 ?_;simp only [go_sem,rdr]));((with_reducible and_intros)<;>try exact sd))
      refine XK.callG [0] (hval pos (by omega)) ok163 (hhp_one rfl) (hbT ()) (fun d h' ⟨_,_,_,_,_,_,e⟩=>by subst e;simp) ?_ (fun _=>⟨by kernel_rfl,_,_,⟨0,rfl,by omega,pos,by omega,by omega,rfl⟩,by simp⟩)
      rintro _ _ ⟨v,rfl,hv,pos',hp1,hp3,rfl⟩ _
      iterate 4 ((try (refine drvZ Try.func110 ?_;simp only [go_sem,rdr]));((with_reducible and_intros)<;>try exact sd))
      refine again (pos',l++[v]) (fun j=>if j=67 then some 4736 else some j) [] _ ⟨by simp;omega,by omega,by simp;omega,rI l v hi4 hv⟩ (by simp;omega) ?_
      simp only [go_sem,TmOK,DM,DMs,CM,CMs,forall_eq,exists_eq_left,Mq,HpOK,LowOK,rdr,i_snoc]
      simp
      exact CMs.kf (kf_app (kf_I _) (by simp [kf]))
    · have hnl:¬ l.length<vs.length:=by omega
      refine drvL Try.func110 ?_
      simp only [go_sem,rdr,hnl]
      iterate 3 ((try (refine drvZ Try.func110 ?_;simp only [go_sem,rdr]));((with_reducible and_intros)<;>try exact sd))
      refine Go.loopQ (fun x : Nat × List (List Int) => [(0, .c (.ptr 0 0)), (3, .c (.ptr 1 0)), (4, .c (.ptr 65 0)), (5, .c (.ptr 66 0)), (7, DI .i64 x.2.length)])
        (fun x=>[(0,some (rdr bs x.1)),(1,some (Pg.cells ⟨vs,ar,bd⟩)),(65,some [.v (.slice none 0 0),.v (.slice none 0 0)]),(66,some [isI l,.msl 68 1 0 x.2.length]),(68,some (x.2.map isI))])
        8192 (fun x=>x.2.length≤ar.length∧n≤x.1∧x.1≤n+l.length+4 * x.2.length∧∀ a ∈ x.2,a.length=4∧∀ y ∈ a,0≤y∧y≤255) (fun x=>ar.length - x.2.length) ?_ (pos,[]) (fun j=>if j=68 then none else some j) [67] _ (by simp;omega) ?_
      · clear again
        rintro ⟨pos,arrs⟩ ⟨hj1,hj2,hj3,hj4⟩ again
        simp only at hj1 hj2 hj3 hj4
        rcases Nat.lt_or_ge arrs.length ar.length with hlt | hge2
        · refine drvL Try.func110 ?_
          simp only [go_sem,rdr,hlt]
          iterate 3 ((try (refine drvZ Try.func110 ?_;simp only [go_sem,rdr]));((with_reducible and_intros)<;>try exact sd))
          refine Go.loopQ (fun x : Nat × List Int => [(0, .c (.ptr 0 0)), (3, .c (.ptr 1 0)), (4, .c (.ptr 65 0)), (5, .c (.ptr 66 0)), (7, DI .i64 arrs.length), (8, .c (.msl 69 1 0 x.2.length)), (9, DI .i64 x.2.length)])
            (fun x=>[(0,some (rdr bs x.1)),(1,some (Pg.cells ⟨vs,ar,bd⟩)),(65,some [.v (.slice none 0 0),.v (.slice none 0 0)]),(66,some [isI l,.msl 68 1 0 arrs.length]),(68,some (arrs.map isI)),(69,some (x.2.map I64))])
            16384 (fun x=>x.2.length≤4∧pos≤x.1∧x.1≤pos+x.2.length∧∀ y ∈ x.2,0≤y∧y≤255) (fun x=>4 - x.2.length) ?_ (pos,[]) (fun j=>if j=69 then some 8512 else some j) [] _ (by simp) ?_
          · rintro ⟨ps,a⟩ ⟨hk1,hk2,hk3,hk4⟩ again2
            simp only at hk1 hk2 hk3 hk4
            rcases Nat.lt_or_ge a.length 4 with hlt2 | hge3
            · have h4:((a.length:Int)<4)=True:=eq_true (by omega)
              refine drvL Try.func110 ?_
              simp only [go_sem,rdr,h4]
              iterate 3 ((try (refine drvZ Try.func110 ?_;simp only [go_sem,rdr]));((with_reducible and_intros)<;>try exact sd))
              refine XK.callG [0] (hval ps (by omega)) ok163 (hhp_one rfl) (hbT ()) (fun d h' ⟨_,_,_,_,_,_,e⟩=>by subst e;simp) ?_
              rintro _ _ ⟨v,rfl,hv,ps',hp1,hp3,rfl⟩ _
              iterate 4 ((try (refine drvZ Try.func110 ?_;simp only [go_sem,rdr]));((with_reducible and_intros)<;>try exact sd))
              refine again2 (ps',a++[v]) (fun j=>if j=69 then some 16768 else some j) [] _ ⟨by simp;omega,by omega,by simp;omega,rI a v hk4 hv⟩ (by simp;omega) ?_
              simp only [go_sem,TmOK,DM,DMs,CM,CMs,forall_eq,exists_eq_left,Mq,HpOK,LowOK,rdr,i_snoc]
              simp
              exact ⟨CMs.kf (kf_A _),CMs.kf (kf_app (kf_I _) (by simp [kf]))⟩
            · have h4:((a.length:Int)<4)=False:=eq_false (by omega)
              have ha4:a.length=4:=by omega
              refine drv_sound (n:=3) (rs:=_) Try.func110 mo rfl none _ _ ?_
              simp only [go_sem,rdr]
              refine XK.freeze 8 69 1 a.length (a.map fun n=>[I64 n]) ?_ (by rw [flat_I];rfl) rfl (by simp) (by simp) (by simp [kf])
              iterate 6 ((try (refine drvZ Try.func110 ?_;simp only [go_sem,rdr,h4]));((with_reducible and_intros)<;>try exact sd))
              refine again (ps,arrs++[a]) (fun j=>if j=68 then some 16768 else some j) [] _ ⟨by simp;omega,by omega,by simp;omega,?_⟩ (by simp;omega) ?_
              · intro b hb2
                rcases List.mem_append.1 hb2 with h3 | h3
                · exact hj4 b h3
                · rw [List.mem_singleton.1 h3];exact ⟨ha4,hk4⟩
              · simp only [go_sem,TmOK,DM,DMs,CM,CMs,forall_eq,exists_eq_left,Mq,HpOK,LowOK,rdr,a_snoc]
                simp
                exact CMs.kf (kf_app (kf_A _) (by simp [kf]))
          · simp only [go_sem,TmOK,DM,DMs,CM,CMs,forall_eq,exists_eq_left,Mq,HpOK,LowOK,rdr]
            simp [CMs]
            exact CMs.kf (kf_A _)
        · have hnl:¬ arrs.length<ar.length:=by omega
          refine drvL Try.func110 ?_
          simp only [go_sem,rdr,hnl]
          iterate 3 ((try (refine drvZ Try.func110 ?_;simp only [go_sem,rdr]));((with_reducible and_intros)<;>try exact sd))
          refine RetOb.ofQ (fun j=>if j=0 then some 0 else none) [68] (.agg (Mm.cells ⟨l,arrs⟩)) [some (rdr bs pos)] ?_ ?_ (by simp)
          · simp [enumL,hOf,DM,DMs,CM,CMs,HpOK,LowOK,upd,rdr,Mm.cells,isI,hdF,kf]
            exact (flat1 isI arrs).symm
          · rw [← hR];exact ⟨⟨l,arrs⟩,rfl,⟨by simp only;omega,by simp only;omega,hi4,hj4⟩,pos,by omega,by omega,rfl⟩
      · simp only [go_sem,TmOK,DM,DMs,CM,CMs,forall_eq,exists_eq_left,Mq,HpOK,LowOK,rdr]
        simp [CMs,kf,flat_I']
  · simp only [go_sem,TmOK,DM,DMs,CM,CMs,forall_eq,exists_eq_left,Mq,HpOK,LowOK,rdr]
    simp [CMs]
end Go.Proofs.Ytddanjifhdaebaa.CtD
namespace Go.Proofs.Ytddanjifhdaebaa.CtR
open Go Go.CT CtF
variable [Yn]
theorem firstDifferenceG (xs ys:List Ev) (hl:xs.length≤mx) (hl2:ys.length≤mx):DC Try.prog 113 [.c (trD xs),.c (trD ys)] [] (fun r h=>r=DI .i64 (fdif xs ys 0)∧h=[]):=by
  have hmx:=mx_eq
  have ret:∀ (n:Int) (hp:Hp),n=fdif xs ys 0→RetOb 0 (fun r h=>r=DI .i64 (fdif xs ys 0)∧h=[]) (DI .i64 n) hp:=fun n hp h=>RetOb.plain (d:=DI .i64 _) ⟨by rw [h],rfl⟩ rfl
  generalize hR:(fun (r:D) (h:List (Option (List C)))=>r=DI .i64 (fdif xs ys 0)∧h=[])=R at ret ⊢
  clear hR
  refine dcZ Try.func113 ?_
  simp only [go_sem,trD]
  ((try (refine drvZ Try.func113 ?_;simp only [go_sem,trD]));((with_reducible and_intros)<;>try exact sd))
  refine Go.loopQ (fun i:Nat=>[(0,.c (trD xs)),(1,.c (trD ys)),(5,DI .i64 i)]) (fun _=>[]) 1024 (fun i=>(i≤xs.length∧i≤ys.length)∧fdif (xs.drop i) (ys.drop i) i=fdif xs ys 0) (fun i=>xs.length - i) ?_ 0 some [] _ ⟨⟨Nat.zero_le _,Nat.zero_le _⟩,rfl⟩ ?_
  · intro i hi again
    have hI:=hi.2
    rcases Nat.lt_or_ge i xs.length with hlt | hge
    · rcases Nat.lt_or_ge i ys.length with hlt2 | hge2
      · obtain ⟨x,hxx⟩:∃ x,xs[i]? = some x:=⟨xs[i],by simp [hlt]⟩
        obtain ⟨y,hyy⟩:∃ y,ys[i]? = some y:=⟨ys[i],by simp [hlt2]⟩
        rw [List.drop_eq_getElem_cons hlt,List.drop_eq_getElem_cons hlt2,(List.getElem?_eq_some_iff.1 hxx).2,(List.getElem?_eq_some_iff.1 hyy).2] at hI
        obtain ⟨xk,xv⟩:=x
        obtain ⟨yk,yv⟩:=y
        simp only [fdif] at hI
        by_cases he:xk=yk∧xv=yv
        · obtain ⟨rfl,rfl⟩:=he
          rw [if_pos ⟨rfl,rfl⟩] at hI
          refine drvL Try.func113 ?_
          simp only [go_sem,trD,hlt,hlt2]
          iterate 4 ((try (refine drvZ Try.func113 ?_;simp only [go_sem,trD,hlt,hlt2,hxx,hyy,Ev.cells]));((with_reducible and_intros)<;>try exact sd))
          refine again (i+1) some [] _ ⟨⟨hlt,hlt2⟩,by rw [← hI];rfl⟩ (by omega) ?_
          simp only [go_sem,TmOK,DM,DMs,CM,CMs,forall_eq,exists_eq_left,Mq,HpOK,LowOK,trD]
          try simp
        · rw [if_neg he] at hI
          have hd:(decide (xk=yk) && decide (xv=yv))=false:=by
            cases h1:decide (xk=yk) with
            | false=>rfl
            | true =>
              cases h2:decide (xv=yv) with
              | false=>rfl
              | true=>exact absurd ⟨of_decide_eq_true h1,of_decide_eq_true h2⟩ he
          refine drvL Try.func113 ?_
          simp only [go_sem,trD,hlt,hlt2]
          iterate 4 ((try (refine drvZ Try.func113 ?_;simp only [go_sem,trD,hlt,hlt2,hxx,hyy,Ev.cells,hd]));((with_reducible and_intros)<;>try exact sd))
          exact ret _ _ hI
      · have hn:¬ i<ys.length:=by omega
        have hie:i=ys.length:=by omega
        have hn2:¬ xs.length<ys.length:=by omega
        have hn3:ys.length<xs.length:=by omega
        refine drvL Try.func113 ?_
        simp only [go_sem,trD,hlt,hn,hn2,hn3]
        iterate 5 ((try (refine drvZ Try.func113 ?_;simp only [go_sem,trD,hlt,hn,hn2,hn3]));((with_reducible and_intros)<;>try exact sd))
        have e2:ys.drop i=[]:=List.drop_of_length_le (by omega)
        refine ret _ _ ?_
        rw [← hI,e2,List.drop_eq_getElem_cons hlt]
        simp only [fdif]
        omega
    · have hn:¬ i<xs.length:=by omega
      have hie:i=xs.length:=by omega
      have e1:xs.drop i=[]:=List.drop_of_length_le (by omega)
      rcases Nat.lt_or_ge xs.length ys.length with h2 | h2
      · have hn3:¬ ys.length<xs.length:=by omega
        refine drvL Try.func113 ?_
        simp only [go_sem,trD,hn,h2,hn3]
        iterate 5 ((try (refine drvZ Try.func113 ?_;simp only [go_sem,trD,hn,h2,hn3]));((with_reducible and_intros)<;>try exact sd))
        refine ret _ _ ?_
        rw [← hI,e1,List.drop_eq_getElem_cons (show i<ys.length by omega)]
        simp only [fdif]
        omega
      · have hn2:¬ xs.length<ys.length:=by omega
        have hn3:¬ ys.length<xs.length:=by omega
        refine drvL Try.func113 ?_
        simp only [go_sem,trD,hn,hn2,hn3]
        iterate 5 ((try (refine drvZ Try.func113 ?_;simp only [go_sem,trD,hn,hn2,hn3]));((with_reducible and_intros)<;>try exact sd))
        have e2:ys.drop i=[]:=List.drop_of_length_le (by omega)
        exact ret _ _ (by rw [← hI,e1,e2];rfl)
  · simp only [go_sem,TmOK,DM,DMs,CM,CMs,forall_eq,exists_eq_left,Mq,HpOK,LowOK,trD]
    try simp
end Go.Proofs.Ytddanjifhdaebaa.CtR
namespace Go.Proofs.Ytddanjifhdaebaa.CtD
open Go Go.CT CtF CtR
variable [Yn]
open CtL (In Cd kindsOf topOf fOK inOK endOK codeOK atC halt)
def slt (k:Nat):UInt8:=if k=1 then 114 else if k=2 then 99 else if k=3 then 118 else if k=4 then 97 else if k=5 then 111 else 116
def sls (op:Int):ByteArray:=⟨(((kindsOf op).filter (fun k => !(k == 0))).map slt).toArray⟩
theorem l6FieldsS (op:Int) (h:1≤op∧op≤13):DC Try.prog 197 [DI .i64 op] [] (fun r h=>r=DS (sls op)∧h=[]):=by
  have hmx:=mx_eq
  have key:op=1∨op=2∨op=3∨op=4∨op=5∨op=6∨op=7∨op=8∨op=9∨op=10∨op=11∨op=12∨op=13:=by omega
  rcases key with rfl | rfl | rfl | rfl | rfl | rfl | rfl | rfl | rfl | rfl | rfl | rfl | rfl
  all_goals
    refine dcZ Try.func197 ?_
    simp only [go_sem]
    iterate 4 ((try (refine drvZ Try.func197 ?_;simp only [go_sem,Int.reduceLE,Int.reduceSub,Int.reduceToNat]));((with_reducible and_intros)<;>try exact sd))
    exact RetOb.plain (d:=DS _) ⟨rfl,rfl⟩ rfl
theorem l6PartsS (x:In):DC Try.prog 198 [.agg (inX x)] [] (fun r h=>r = .c (isI [x.a,x.b,x.c,x.d])∧h=[]):=by
  have hmx:=mx_eq
  obtain ⟨op,a,b,c,d⟩:=x
  unfold inX
  refine dcZ Try.func198 ?_
  simp only [go_sem]
  iterate 3 ((try (refine drvZ Try.func198 ?_;simp only [go_sem]));((with_reducible and_intros)<;>try exact sd))
  refine RetOb.ofQ (fun _=>none) [640] (.c (isI [a,b,c,d])) [] ?_ ⟨rfl,rfl⟩ (by simp)
  simp [isI,enumL,DM,DMs,CM,CMs,HpOK,LowOK,hOf,upd,kf]
theorem l6RangeS (c : Cd) (h1 : c.vars.length ≤ mx) (h2 : c.arrays.length ≤ mx) (h3 : c.list.length ≤ mx) (k : Nat) (hk : 1 ≤ k ∧ k ≤ 6) (n : Int) :
    DC Try.prog 199 [.agg (cdC c),.c (.v (.int .u8 (slt k).toNat)),DI .i64 n] [] (fun r h=>r=DB (fOK c.vars.length c.arrays.length c.list.length k n)∧h=[]):=by
  have hmx:=mx_eq
  obtain ⟨vs,ar,ls⟩:=c
  simp only at h1 h2 h3
  have ret:∀ (b:Bool) (hp:Hp),b=fOK vs.length ar.length ls.length k n→RetOb 0 (fun r h=>r=DB (fOK vs.length ar.length ls.length k n)∧h=[]) (DB b) hp:=fun b hp h=>RetOb.plain (d:=DB _) ⟨by rw [h],rfl⟩ rfl
  generalize hR:(fun (r:D) (h:List (Option (List C)))=>r=DB (fOK vs.length ar.length ls.length k n)∧h=[])=R at ret ⊢
  clear hR
  have key:k=1∨k=2∨k=3∨k=4∨k=5∨k=6:=by omega
  unfold cdC
  rcases key with rfl | rfl | rfl | rfl | rfl | rfl
  · rw [show (((slt 1).toNat:Nat):Int)=114 from rfl]
    refine dcZ Try.func199 ?_
    simp only [go_sem]
    iterate 10 ((try (refine drvZ Try.func199 ?_;simp only [go_sem,List.length_map]));((with_reducible and_intros)<;>try exact sd))
    refine ret _ _ ?_
    rw [Bool.eq_iff_iff];simp [fOK,topOf];omega
  · rw [show (((slt 2).toNat:Nat):Int)=99 from rfl]
    refine dcZ Try.func199 ?_
    simp only [go_sem]
    iterate 10 ((try (refine drvZ Try.func199 ?_;simp only [go_sem,List.length_map]));((with_reducible and_intros)<;>try exact sd))
    refine ret _ _ ?_
    rw [Bool.eq_iff_iff];simp [fOK,topOf]
  · rw [show (((slt 3).toNat:Nat):Int)=118 from rfl]
    refine dcZ Try.func199 ?_
    simp only [go_sem]
    iterate 10 ((try (refine drvZ Try.func199 ?_;simp only [go_sem,List.length_map]));((with_reducible and_intros)<;>try exact sd))
    refine ret _ _ ?_
    rw [Bool.eq_iff_iff];simp [fOK,topOf];omega
  · rw [show (((slt 4).toNat:Nat):Int)=97 from rfl]
    refine dcZ Try.func199 ?_
    simp only [go_sem]
    iterate 10 ((try (refine drvZ Try.func199 ?_;simp only [go_sem,List.length_map]));((with_reducible and_intros)<;>try exact sd))
    refine ret _ _ ?_
    rw [Bool.eq_iff_iff];simp [fOK,topOf];omega
  · rw [show (((slt 5).toNat:Nat):Int)=111 from rfl]
    refine dcZ Try.func199 ?_
    simp only [go_sem]
    iterate 10 ((try (refine drvZ Try.func199 ?_;simp only [go_sem,List.length_map]));((with_reducible and_intros)<;>try exact sd))
    refine ret _ _ ?_
    rw [Bool.eq_iff_iff];simp [fOK,topOf]
  · rw [show (((slt 6).toNat:Nat):Int)=116 from rfl]
    refine dcZ Try.func199 ?_
    simp only [go_sem]
    iterate 10 ((try (refine drvZ Try.func199 ?_;simp only [go_sem,List.length_map]));((with_reducible and_intros)<;>try exact sd))
    refine ret _ _ ?_
    rw [Bool.eq_iff_iff];simp [fOK,topOf];omega
theorem sls_len (op:Int) (i:Nat) (h:i<4):(i<(sls op).size) ↔ (kindsOf op).getD i 0 ≠ 0:=by
  have hi:i=0∨i=1∨i=2∨i=3:=by omega
  unfold sls kindsOf
  repeat' split
  all_goals rcases hi with rfl | rfl | rfl | rfl<;>decide
theorem kinds_len (op:Int):(kindsOf op).length=4:=by
  unfold kindsOf
  repeat' split
  all_goals rfl
theorem filt_at : ∀ (l : List Nat) (i : Nat), (∀ j k : Nat, j < k → l.getD k 0 ≠ 0 → l.getD j 0 ≠ 0) → l.getD i 0 ≠ 0 → ((l.filter (fun k => !(k == 0))).map slt)[i]? = some (slt (l.getD i 0))
  | [],i,_,h=>by simp at h
  | a :: r,i,hp,h=>by
    have ha:a ≠ 0:=by
      match i,h with
      | 0,h=>simpa using h
      | i+1,h=>have:=hp 0 (i+1) (by omega) h;simpa using this
    have hf:(a :: r).filter (fun k => !(k == 0))=a :: r.filter (fun k => !(k == 0)):=by simp [ha]
    rw [hf]
    match i,h with
    | 0,h=>simp
    | i+1,h =>
      have ih:=filt_at r i (fun j k hj hk=>by have:=hp (j+1) (k+1) (by omega) (by simpa using hk);simpa using this) (by simpa using h)
      simpa using ih
theorem kinds_pre (op:Int):∀ j k:Nat,j<k→(kindsOf op).getD k 0 ≠ 0→(kindsOf op).getD j 0 ≠ 0:=fun j k hj hk=>by
  have h4:k<4:=by
    rcases Nat.lt_or_ge k 4 with h4 | h4
    · exact h4
    · exfalso
      apply hk
      rw [List.getD_eq_getElem?_getD,List.getElem?_eq_none (by rw [kinds_len];exact h4)];rfl
  have hk':k=1∨k=2∨k=3:=by omega
  have hj':j=0∨j=1∨j=2:=by omega
  revert hk
  unfold kindsOf
  repeat' split
  all_goals (rcases hk' with rfl | rfl | rfl<;>rcases hj' with rfl | rfl | rfl<;>first | omega | decide)
theorem sls_at (op:Int) (i:Nat) (h:(kindsOf op).getD i 0 ≠ 0):(sls op).data.toList.getD i 0=slt ((kindsOf op).getD i 0):=by
  have:=filt_at (kindsOf op) i (kinds_pre op) h
  unfold sls
  rw [List.getD_eq_getElem?_getD]
  simp only
  rw [this];rfl
end Go.Proofs.Ytddanjifhdaebaa.CtD
