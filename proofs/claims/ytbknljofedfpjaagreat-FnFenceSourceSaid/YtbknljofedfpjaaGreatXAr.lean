/- Contracts of functions of the program, one behind the other, as plain data: what each call returns and which blocks it leaves. -/
import Derived.Test.YtbknljofedfpjaaGreatXFacts
import Derived.Test.YtbknljofedfpjaaGreatXAi
import Derived.Test.YtbknljofedfpjaaGreatXAk
import Derived.Test.YtbknljofedfpjaaGreatXAm
import Derived.Test.YtbknljofedfpjaaGreatXAn
import Derived.Test.YtbknljofedfpjaaGreatXAo
import Derived.Test.YtbknljofedfpjaaGreatXAp
import Derived.Test.YtbknljofedfpjaaGreatXAq
import Derived.Test.YtbknljofedfpjaaGreatXAl
set_option linter.unusedVariables false
set_option linter.unusedSimpArgs false
set_option linter.unusedSectionVars false
set_option maxHeartbeats 16000000
set_option maxRecDepth 100000
namespace Go.Proofs.YtbknljofedfpjaaGreat.CtL
variable [Go.CT.Yn]
open Go Go.CT CtF CtR
structure In where
  op:Int
  a:Int
  b:Int
  c:Int
  d:Int
structure Cd where
  vars:List Int
  arrays:List Int
  list:List In
structure Mc where
  pc:Nat
  regs:List Int
  mem:Mm
def halt:In:=⟨13,0,0,0,0⟩
def stepM (x:In) (s:Mc):Mc × List Ev :=
  if x.op=1 then (⟨s.pc+1,s.regs.set x.a.toNat x.b,s.mem⟩,[⟨5,s.pc⟩])
  else if x.op=2 then (⟨s.pc+1,s.regs.set x.a.toNat (nth s.mem.vals x.b),s.mem⟩,[⟨5,s.pc⟩])
  else if x.op=3 then (⟨s.pc+1,s.regs,setV s.mem x.a (nth s.regs x.b)⟩,[⟨5,s.pc⟩])
  else if x.op=4 then (⟨s.pc+1,s.regs.set x.a.toNat (nth (arrAt s.mem x.b) (nth s.regs x.c % 4)),s.mem⟩,[⟨5,s.pc⟩,⟨2,x.b * 4+nth s.regs x.c % 4⟩])
  else if x.op=5 then (⟨s.pc+1,s.regs,setA s.mem x.a (nth s.regs x.b % 4) (nth s.regs x.c)⟩,[⟨5,s.pc⟩,⟨3,x.a * 4+nth s.regs x.b % 4⟩])
  else if x.op=6 then (⟨s.pc+1,s.regs.set x.a.toNat (bin x.b (nth s.regs x.c) (nth s.regs x.d)),s.mem⟩,[⟨5,s.pc⟩])
  else if x.op=7 then (⟨s.pc+1,s.regs.set x.a.toNat (if nth s.regs x.b ≠ 0 then nth s.regs x.c else nth s.regs x.d),s.mem⟩,[⟨5,s.pc⟩])
  else if x.op=8 then (⟨x.a.toNat,s.regs,s.mem⟩,[⟨5,s.pc⟩])
  else if x.op=9 then (⟨if nth s.regs x.a=0 then x.b.toNat else s.pc+1,s.regs,s.mem⟩,[⟨5,s.pc⟩])
  else if x.op=10 then (⟨if (nth s.regs x.a+255) % 256 ≠ 0 then x.b.toNat else s.pc+1,s.regs.set x.a.toNat ((nth s.regs x.a+255) % 256),s.mem⟩,[⟨5,s.pc⟩])
  else if x.op=11 then (⟨s.pc+1,s.regs,s.mem⟩,[⟨5,s.pc⟩,⟨4,nth s.regs x.a⟩])
  else if x.op=13 then (s,[⟨5,s.pc⟩])
  else (⟨s.pc+1,s.regs,s.mem⟩,[⟨5,s.pc⟩])
def atC (C:List In) (i:Nat):In:=C.getD i halt
def runM (C : List In) : Nat → Mc → Option (Mm × List Ev)
  | 0,_=>none
  | n + 1, s => if (atC C s.pc).op = 13 then some ((stepM (atC C s.pc) s).1.mem, (stepM (atC C s.pc) s).2)
    else (runM C n (stepM (atC C s.pc) s).1).map fun q=>(q.1,(stepM (atC C s.pc) s).2++q.2)
def stp (X:List Ev):Nat:=X.countP fun e=>e.kind == 5
def Reach (C:List In) (s s':Mc) (X:List Ev):Prop:=∀ n,runM C (stp X+n) s=(runM C n s').map fun q=>(q.1,X++q.2)
theorem Reach.rfl {C:List In} {s:Mc}:Reach C s s []:=fun n=>by simp [stp]
theorem Reach.trans {C:List In} {s s' s'':Mc} {X Y:List Ev} (h:Reach C s s' X) (h2:Reach C s' s'' Y):Reach C s s'' (X++Y):=fun n=>by
  have:stp (X++Y)+n=stp X+(stp Y+n):=by simp [stp,List.countP_append];omega
  rw [this,h,h2,Option.map_map]
  congr 1
  funext q
  simp
theorem stp_step (x:In) (s:Mc):stp (stepM x s).2=1:=by
  unfold stepM
  by_cases h1:x.op=1
  · rw [if_pos h1];rfl
  rw [if_neg h1]
  by_cases h2:x.op=2
  · rw [if_pos h2];rfl
  rw [if_neg h2]
  by_cases h3:x.op=3
  · rw [if_pos h3];rfl
  rw [if_neg h3]
  by_cases h4:x.op=4
  · rw [if_pos h4];rfl
  rw [if_neg h4]
  by_cases h5:x.op=5
  · rw [if_pos h5];rfl
  rw [if_neg h5]
  by_cases h6:x.op=6
  · rw [if_pos h6];rfl
  rw [if_neg h6]
  by_cases h7:x.op=7
  · rw [if_pos h7];rfl
  rw [if_neg h7]
  by_cases h8:x.op=8
  · rw [if_pos h8];rfl
  rw [if_neg h8]
  by_cases h9:x.op=9
  · rw [if_pos h9];rfl
  rw [if_neg h9]
  by_cases h10:x.op=10
  · rw [if_pos h10];rfl
  rw [if_neg h10]
  by_cases h11:x.op=11
  · rw [if_pos h11];rfl
  rw [if_neg h11]
  by_cases h13:x.op=13
  · rw [if_pos h13];rfl
  rw [if_neg h13]
  rfl
theorem Reach.one {C:List In} {s:Mc} {x:In} (h:C[s.pc]? = some x) (hx:x.op ≠ 13):Reach C s (stepM x s).1 (stepM x s).2:=fun n=>by
  have e:atC C s.pc=x:=by simp [atC,List.getD,h]
  rw [stp_step,Nat.add_comm,runM,e,if_neg hx]
theorem Reach.one' {C:List In} {s s':Mc} {x:In} {X:List Ev} (h:C[s.pc]? = some x) (hx:x.op ≠ 13) (he:stepM x s=(s',X)):Reach C s s' X:=by
  have:=Reach.one h hx
  rw [he] at this
  exact this
theorem runM_halt {C:List In} {s:Mc} (h:C[s.pc]? = some halt) (n:Nat):runM C (n+1) s=some (s.mem,[⟨5,s.pc⟩]):=by
  have e:atC C s.pc=halt:=by simp [atC,List.getD,h]
  rw [runM,e,if_pos (by rfl)]
  rfl
theorem runM_more {C : List In} : ∀ (n k : Nat) (s : Mc) (q : Mm × List Ev), runM C n s = some q → runM C (n + k) s = some q
  | 0,k,s,q,h=>by simp [runM] at h
  | n+1,k,s,q,h=>by
    rw [show n+1+k=(n+k)+1 by omega]
    rw [runM] at h ⊢
    split
    · rename_i hc;rw [if_pos hc] at h;exact h
    · rename_i hc
      rw [if_neg hc] at h
      obtain ⟨q',hq,rfl⟩:=Option.map_eq_some_iff.1 h
      rw [runM_more n k _ q' hq];rfl
theorem Reach.run {C : List In} {s s' : Mc} {X : List Ev} (h : Reach C s s' X) (hh : C[s'.pc]? = some halt) (F : Nat) :
    runM C F s=if stp X+1≤F then some (s'.mem,X++[⟨5,s'.pc⟩]) else none:=by
  split
  · rename_i hle
    obtain ⟨k,rfl⟩:∃ k,F=stp X+(k+1):=⟨F - stp X - 1,by omega⟩
    rw [h,runM_halt hh];rfl
  · rename_i hle
    cases hr:runM C F s with
    | none=>rfl
    | some q =>
      have:=runM_more F (stp X - F) s q hr
      rw [show F+(stp X - F)=stp X+0 by omega,h] at this
      simp [runM] at this
def At (C:List In) (b:Nat) (L:List In):Prop:=∃ pre post,C=pre++L++post∧pre.length=b
theorem At.left {C:List In} {b:Nat} {L R:List In} (h:At C b (L++R)):At C b L:=by
  obtain ⟨pre,post,rfl,hl⟩:=h
  exact ⟨pre,R++post,by simp,hl⟩
theorem At.right {C:List In} {b n:Nat} {L R:List In} (h:At C b (L++R)) (hn:L.length=n):At C (b+n) R:=by
  obtain ⟨pre,post,rfl,hl⟩:=h
  exact ⟨pre++L,post,by simp,by simp [hl,hn]⟩
theorem At.head {C:List In} {b:Nat} {x:In} {R:List In} (h:At C b (x :: R)):C[b]? = some x:=by
  obtain ⟨pre,post,rfl,hl⟩:=h
  subst hl;simp
theorem At.tail {C:List In} {b:Nat} {x:In} {R:List In} (h:At C b (x :: R)):At C (b+1) R:=At.right (L:=[x]) h rfl
def seqE (f : Ex → Nat → List In) : Nat → List Ex → List In
  | _,[]=>[]
  | n,e :: r=>f e n++seqE f (n+1) r
def lastE (k v:Int) (n:Nat):In :=
  if k=3 then ⟨4,n,v,n,0⟩ else if k=11 then ⟨7,n,n,(n:Int)+1,(n:Int)+2⟩ else ⟨6,n,k,n,(n:Int)+1⟩
def kE : Nat → Ex → Nat → List In
  | 0,_,_=>[]
  | d+1,.mk k v ks,n=>if k=1 then [⟨1,n,v,0,0⟩] else if k=2 then [⟨2,n,v,0,0⟩] else seqE (kE d) n ks++[lastE k v n]
theorem seqE_snoc (f : Ex → Nat → List In) : ∀ (l : List Ex) (n : Nat) (e : Ex), seqE f n (l ++ [e]) = seqE f n l ++ f e (n + l.length)
  | [],n,e=>by simp [seqE]
  | a :: r,n,e=>by
    simp only [List.cons_append,seqE,seqE_snoc f r,List.append_assoc,List.length_cons]
    rw [show n+1+r.length=n+(r.length+1) by omega]
theorem seqE_len {p : Pg} {d : Nat} : ∀ (l : List Ex) (n : Nat), (∀ e ∈ l, ∀ n, (kE d e n).length = cnt d e) → (seqE (kE d) n l).length = (l.map (cnt d)).sum
  | [],n,_=>rfl
  | a :: r,n,h=>by
    simp only [seqE,List.length_append,List.map_cons,List.sum_cons]
    rw [h a (by simp),seqE_len (p:=p) r (n+1) fun e he=>h e (by simp [he])]
theorem kE_len {p : Pg} : ∀ (d : Nat) (e : Ex), CtR.shape p d e = true → ∀ n, (kE d e n).length = cnt d e
  | 0,_,h,_=>by simp [CtR.shape] at h
  | d+1,.mk k v ks,h,n=>by
    obtain ⟨g1,g2,g3⟩:=shape_succ h
    rcases shape_form h with ⟨hk,rfl⟩ | ⟨a,rfl,rfl,ha,hat⟩ | ⟨a,b,k4,k10,rfl,ha,hb⟩ | ⟨a,b,c,rfl,rfl,ha,hb,hc⟩
    · rcases hk with ⟨rfl,_⟩ | rfl<;>simp [kE,cnt]
    all_goals
      rw [kE,if_neg (by omega),if_neg (by omega),List.length_append,seqE_len (p:=p) _ _ fun e he n=>kE_len d e (g2 e he) n]
      simp only [cnt,List.length_singleton];omega
def seqX (f : Nat → Ex → List Ev) (len : Ex → Nat) : Nat → List Ex → List Ev
  | _,[]=>[]
  | b,e :: r=>f b e++seqX f len (b+len e) r
def xE (m : Mm) : Nat → Nat → Ex → List Ev
  | 0,_,_=>[]
  | d+1,b,.mk k v ks=>seqX (xE m d) (cnt d) b ks++⟨5,(b+(ks.map (cnt d)).sum:Nat)⟩ :: (if k=3 then [⟨2,v * 4+(ks.map fun e=>(evalE m d e).1).getD 0 0 % 4⟩] else [])
def EOk (C:List In) (m:Mm) (n b l:Nat) (X:List Ev) (val:Int):Prop:=∀ regs:List Int,regs.length=14→∃ regs':List Int,Reach C ⟨b,regs,m⟩ ⟨b+l,regs',m⟩ X∧regs'.length=14∧regs'.getD n 0=val∧∀ j,j<n∨9≤j→regs'.getD j 0=regs.getD j 0
theorem nth_nat (l:List Int) (n:Nat):nth l (n:Int)=l.getD n 0:=by simp [nth]
theorem nth_nat1 (l:List Int) (n:Nat):nth l ((n:Int)+1)=l.getD (n+1) 0:=by
  rw [show (n:Int)+1=((n+1:Nat):Int) by omega,nth_nat]
theorem nth_nat2 (l:List Int) (n:Nat):nth l ((n:Int)+2)=l.getD (n+2) 0:=by
  rw [show (n:Int)+2=((n+2:Nat):Int) by omega,nth_nat]
theorem getD_set (l:List Int) (i j:Nat) (x:Int) (hi:i<l.length):(l.set i x).getD j 0=if i=j then x else l.getD j 0:=by
  simp only [List.getD_eq_getElem?_getD,List.getElem?_set]
  by_cases h:i=j
  · subst h;simp [hi]
  · simp [h]
theorem EOk.fin {C : List In} {m : Mm} {n b : Nat} {x : In} {val : Int} {X : List Ev} {regs : List Int} (hr : regs.length = 14) (hn : n < 9) (h : C[b]? = some x) (hx : x.op ≠ 13) (he : stepM x ⟨b, regs, m⟩ = (⟨b + 1, regs.set n val, m⟩, X)) :
    ∃ regs':List Int,Reach C ⟨b,regs,m⟩ ⟨b+1,regs',m⟩ X∧regs'.length=14∧regs'.getD n 0=val∧∀ j,j<n∨9≤j→regs'.getD j 0=regs.getD j 0:=by
  refine ⟨regs.set n val,Reach.one' h hx he,by simp [hr],by rw [getD_set _ _ _ _ (by omega),if_pos rfl],fun j hj=>by rw [getD_set _ _ _ _ (by omega),if_neg (by omega)]⟩
theorem kE_run {p : Pg} {C : List In} {m : Mm} (hm : MemFits p m) : ∀ (d : Nat) (e : Ex) (n b : Nat), CtR.shape p d e = true → n + 2 * d ≤ 10 → At C b (kE d e n) → EOk C m n b (cnt d e) (xE m d b e) (evalE m d e).1
  | 0,_,_,_,h,_,_=>by simp [CtR.shape] at h
  | d+1,.mk k v ks,n,b,h,hn,hat=>by
    intro regs hr
    rcases shape_form h with ⟨hk,rfl⟩ | ⟨a,rfl,rfl,ha,_⟩ | ⟨a,b',k4,k10,rfl,ha,hb⟩ | ⟨a,b',c,rfl,rfl,ha,hb,hc⟩
    · rcases hk with ⟨rfl,_⟩ | rfl
      · simp only [kE,if_true] at hat
        have:=EOk.fin (C:=C) (m:=m) (n:=n) (b:=b) (val:=v) (X:=[⟨5,b⟩]) hr (by omega) hat.head (by simp) (by simp [stepM])
        simpa [cnt,xE,seqX,evalE] using this
      · simp [kE] at hat
        have:=EOk.fin (C:=C) (m:=m) (n:=n) (b:=b) (val:=nth m.vals v) (X:=[⟨5,b⟩]) hr (by omega) hat.head (by simp) (by simp [stepM])
        simpa [cnt,xE,seqX,evalE] using this
    · simp only [kE,seqE,List.append_nil,lastE] at hat
      simp at hat
      obtain ⟨r1,h1,h2,h3,h4⟩:=kE_run hm d a n b ha (by omega) hat.left regs hr
      have hl:=hat.right (kE_len d a ha n)
      obtain ⟨r2,g1,g2,g3,g4⟩:=EOk.fin (C:=C) (m:=m) (n:=n) (b:=b+cnt d a) (val:=nth (arrAt m v) ((evalE m d a).1 % 4)) (X:=[⟨5,(b+cnt d a:Nat)⟩,⟨2,v * 4+(evalE m d a).1 % 4⟩]) h2 (by omega) hl.head (by simp) (by simp only [stepM,nth_nat,Int.toNat_natCast,h3];simp)
      refine ⟨r2,?_,g2,?_,fun j hj=>by rw [g4 j hj,h4 j hj]⟩
      · have:=h1.trans g1
        simpa [cnt,xE,seqX,Nat.add_assoc,Nat.add_comm,Nat.add_left_comm] using this
      · simpa [evalE] using g3
    · have n1:k ≠ 1:=by omega
      have n2:k ≠ 2:=by omega
      have n3:k ≠ 3:=by omega
      have n11:k ≠ 11:=by omega
      simp only [kE,seqE,List.append_nil,lastE,if_neg n1,if_neg n2,if_neg n3,if_neg n11,List.append_assoc] at hat
      obtain ⟨r1,h1,h2,h3,h4⟩:=kE_run hm d a n b ha (by omega) hat.left regs hr
      have hl:=hat.right (kE_len d a ha n)
      obtain ⟨r2,i1,i2,i3,i4⟩:=kE_run hm d b' (n+1) (b+cnt d a) hb (by omega) hl.left r1 h2
      have hl2:=hl.right (kE_len d b' hb (n+1))
      have e0:r2.getD n 0=(evalE m d a).1:=by rw [i4 n (by omega),h3]
      obtain ⟨r3,g1,g2,g3,g4⟩:=EOk.fin (C:=C) (m:=m) (n:=n) (b:=b+cnt d a+cnt d b') (val:=bin k (evalE m d a).1 (evalE m d b').1) (X:=[⟨5,(b+cnt d a+cnt d b':Nat)⟩]) i2 (by omega) hl2.head (by simp) (by simp only [stepM,nth_nat,nth_nat1,Int.toNat_natCast];rw [e0,i3];simp)
      refine ⟨r3,?_,g2,?_,fun j hj=>by rw [g4 j hj,i4 j (by omega),h4 j hj]⟩
      · have:=(h1.trans i1).trans g1
        simpa [cnt,xE,seqX,n3,Nat.add_assoc,Nat.add_comm,Nat.add_left_comm] using this
      · simpa [evalE,n1,n2,n3,n11] using g3
    · simp only [kE,seqE,List.append_nil,lastE,List.append_assoc] at hat
      simp only [show ¬ ((11:Int)=1) by decide,show ¬ ((11:Int)=2) by decide,show ¬ ((11:Int)=3) by decide,if_true,if_false] at hat
      obtain ⟨r1,h1,h2,h3,h4⟩:=kE_run hm d a n b ha (by omega) hat.left regs hr
      have hl:=hat.right (kE_len d a ha n)
      obtain ⟨r2,i1,i2,i3,i4⟩:=kE_run hm d b' (n+1) (b+cnt d a) hb (by omega) hl.left r1 h2
      have hl2:=hl.right (kE_len d b' hb (n+1))
      obtain ⟨r3,j1,j2,j3,j4⟩:=kE_run hm d c (n+1+1) (b+cnt d a+cnt d b') hc (by omega) hl2.left r2 i2
      have hl3:=hl2.right (kE_len d c hc (n+1+1))
      have e0:r3.getD n 0=(evalE m d a).1:=by rw [j4 n (by omega),i4 n (by omega),h3]
      have e1:r3.getD (n+1) 0=(evalE m d b').1:=by rw [j4 (n+1) (by omega),i3]
      obtain ⟨r4,g1,g2,g3,g4⟩:=EOk.fin (C:=C) (m:=m) (n:=n) (b:=b+cnt d a+cnt d b' + cnt d c) (val:=if (evalE m d a).1 ≠ 0 then (evalE m d b').1 else (evalE m d c).1) (X:=[⟨5,(b+cnt d a+cnt d b' + cnt d c:Nat)⟩]) j2 (by omega) hl3.head (by simp) (by simp only [stepM,nth_nat,nth_nat1,nth_nat2,Int.toNat_natCast];rw [e0,e1,j3];simp)
      refine ⟨r4,?_,g2,?_,fun j hj=>by rw [g4 j hj,j4 j (by omega),i4 j (by omega),h4 j hj]⟩
      · have:=((h1.trans i1).trans j1).trans g1
        simpa [cnt,xE,seqX,Nat.add_assoc,Nat.add_comm,Nat.add_left_comm] using this
      · simpa [evalE] using g3
open Go Go.CT CtF CtR
def lenS : Nat → St1 → Nat
  | 0,_=>0
  | d + 1, .mk k t ix v c b e => if k = 4 then (b.map (lenS d)).sum + 2 else if k = 1 then cnt 5 v + 1 else if k = 5 then cnt 5 v + 2
      else if k=2 then cnt 5 v+cnt 5 ix+1 else cnt 5 v+(b.map (lenS d)).sum+(e.map (lenS d)).sum+2
def lenL (d:Nat) (l:List St1):Nat:=(l.map (lenS d)).sum
def seqS (f : Nat → St1 → List In) (len : St1 → Nat) : Nat → List St1 → List In
  | _,[]=>[]
  | b,s :: r=>f b s++seqS f len (b+len s) r
def cS : Nat → Nat → Nat → St1 → List In
  | 0,_,_,_=>[]
  | d+1,dep,b,.mk k t ix v c bd el =>
    if k=4 then ⟨1,9+dep,c,0,0⟩ :: (seqS (cS d (dep+1)) (lenS d) (b+1) bd++[⟨10,9+dep,(b+1:Nat),0,0⟩])
    else if k=1 then kE 5 v 0++[⟨3,t,0,0,0⟩]
    else if k=5 then kE 5 v 0++[⟨11,0,0,0,0⟩,⟨3,t,0,0,0⟩]
    else if k=2 then kE 5 v 0++(kE 5 ix 1++[⟨5,t,1,0,0⟩])
    else kE 5 v 0 ++ (⟨9, 0, (b + cnt 5 v + lenL d bd + 2 : Nat), 0, 0⟩ :: (seqS (cS d (dep + 1)) (lenS d) (b + cnt 5 v + 1) bd ++
      (⟨8,(b+cnt 5 v+lenL d bd+lenL d el+2:Nat),0,0,0⟩ :: seqS (cS d (dep+1)) (lenS d) (b+cnt 5 v+lenL d bd+2) el)))
def cL (d dep b:Nat) (l:List St1):List In:=seqS (cS d dep) (lenS d) b l
theorem seqS_snoc (f : Nat → St1 → List In) (len : St1 → Nat) : ∀ (l : List St1) (b : Nat) (s : St1), seqS f len b (l ++ [s]) = seqS f len b l ++ f (b + (l.map len).sum) s
  | [],b,s=>by simp [seqS]
  | a :: r,b,s=>by
    simp only [List.cons_append,seqS,seqS_snoc f len r,List.append_assoc,List.map_cons,List.sum_cons,Nat.add_assoc]
theorem seqS_len {f : Nat → St1 → List In} {len : St1 → Nat} : ∀ (l : List St1) (b : Nat), (∀ s ∈ l, ∀ b, (f b s).length = len s) → (seqS f len b l).length = (l.map len).sum
  | [],b,_=>rfl
  | a :: r,b,h=>by
    simp only [seqS,List.length_append,List.map_cons,List.sum_cons]
    rw [h a (by simp),seqS_len r _ fun s hs=>h s (by simp [hs])]
theorem atom_cnt {p:Pg} {d:Nat} {e:Ex} (hs:CtR.shape p d e=true) (ha:atom e=true):∃ k v,e = .mk k v []∧(k=1∨k=2):=by
  obtain ⟨k,v,rfl,hk⟩:=atom_mk hs ha
  exact ⟨k,v,rfl,hk.imp (·.1) (·.1)⟩
theorem cS_len {p : Pg} : ∀ (d : Nat) (s : St1), stmtOK p d s = true → ∀ dep b, (cS d dep b s).length = lenS d s
  | 0,_,h,_,_=>by simp [stmtOK] at h
  | d+1,.mk k t ix v c bd el,h,dep,b=>by
    obtain ⟨hh,hb,he⟩:=stmtOK_succ h
    have eb:=fun b=>seqS_len (f:=cS d (dep+1)) bd b fun s hs b=>cS_len d s (hb s hs) (dep+1) b
    have ee:=fun b=>seqS_len (f:=cS d (dep+1)) el b fun s hs b=>cS_len d s (he s hs) (dep+1) b
    rcases head_kind hh with ⟨hk,ht0,ht1,hr⟩ | ⟨rfl,ht0,ht1,hri,hai,hr⟩ | ⟨rfl,hr⟩ | ⟨rfl,hc1,hc3⟩
    · have:=kE_len 5 v (right_shape hr).1 0
      rcases hk with rfl | rfl<;>simp [cS,lenS,this]
    · have h1:=kE_len 5 v (right_shape hr).1 0
      have h2:=kE_len 5 ix (right_shape hri).1 1
      simp [cS,lenS,h1,h2];omega
    · have h1:=kE_len 5 v (right_shape hr).1 0
      simp [cS,lenS,h1,eb,ee];omega
    · simp [cS,lenS,eb]
theorem cL_len {p:Pg} {d dep b:Nat} {l:List St1} (h:∀ s ∈ l,stmtOK p d s=true):(cL d dep b l).length=lenL d l:=seqS_len l b fun s hs b=>cS_len d s (h s hs) dep b
def seqT (f : Nat → Mm → St1 → List Ev) (len : St1 → Nat) (g : Mm → St1 → Mm × List Ev) : Nat → Mm → List St1 → List Ev
  | _,_,[]=>[]
  | b,m,s :: r=>f b m s++seqT f len g (b+len s) (g m s).1 r
def iterX (f : Mm → List Ev) (g : Mm → Mm × List Ev) : Nat → Mm → List Ev
  | 0,_=>[]
  | n+1,m=>iterX f g n m++f (iterR g n m).1
def xS : Nat → Nat → Mm → St1 → List Ev
  | 0,_,_,_=>[]
  | d+1,b,m,.mk k t ix v c bd el =>
    if k=4 then ⟨5,b⟩ :: iterX (fun m=>seqT (xS d) (lenS d) (runS d) (b+1) m bd++[⟨5,(b+1+lenL d bd:Nat)⟩]) (fun m=>foldR (runS d) m bd) c.toNat m
    else if k=1 then xE m 5 b v++[⟨5,(b+cnt 5 v:Nat)⟩]
    else if k=5 then xE m 5 b v++[⟨5,(b+cnt 5 v:Nat)⟩,⟨4,(evalE m 5 v).1⟩,⟨5,(b+cnt 5 v+1:Nat)⟩]
    else if k=2 then xE m 5 b v++(xE m 5 (b+cnt 5 v) ix++[⟨5,(b+cnt 5 v+cnt 5 ix:Nat)⟩,⟨3,t * 4+(evalE m 5 ix).1 % 4⟩])
    else xE m 5 b v ++ (⟨5, (b + cnt 5 v : Nat)⟩ :: (if (evalE m 5 v).1 ≠ 0 then seqT (xS d) (lenS d) (runS d) (b + cnt 5 v + 1) m bd ++ [⟨5, (b + cnt 5 v + 1 + lenL d bd : Nat)⟩]
      else seqT (xS d) (lenS d) (runS d) (b+cnt 5 v+lenL d bd+2) m el))
def xL (d b:Nat) (m:Mm) (l:List St1):List Ev:=seqT (xS d) (lenS d) (runS d) b m l
def SOk (C:List In) (dep b l:Nat) (m m':Mm) (X:List Ev):Prop:=∀ regs:List Int,regs.length=14→∃ regs':List Int,Reach C ⟨b,regs,m⟩ ⟨b+l,regs',m'⟩ X∧regs'.length=14∧∀ j,9≤j→j<9+dep→regs'.getD j 0=regs.getD j 0
theorem seq_run {p : Pg} {C : List In} {d dep : Nat} (ih : ∀ (s : St1) (b : Nat) (m : Mm), MemFits p m → stmtOK p d s = true → At C b (cS d dep b s) → SOk C dep b (lenS d s) m (runS d m s).1 (xS d b m s)) :
    ∀ (l:List St1) (b:Nat) (m:Mm),MemFits p m→(∀ s ∈ l,stmtOK p d s=true)→At C b (cL d dep b l)→SOk C dep b (lenL d l) m (foldR (runS d) m l).1 (xL d b m l)
  | [],b,m,hm,_,_=>fun regs hr=>⟨regs,by simpa [foldR,xL,seqT,lenL] using Reach.rfl,hr,fun _ _ _=>rfl⟩
  | s :: r,b,m,hm,hok,hat=>fun regs hr=>by
    have hat:At C b (cS d dep b s++cL d dep (b+lenS d s) r):=hat
    obtain ⟨r1,h1,h2,h3⟩:=ih s b m hm (hok s (by simp)) hat.left regs hr
    obtain ⟨r2,g1,g2,g3⟩:=seq_run ih r (b+lenS d s) _ (runS_ok d m s hm (hok s (by simp))).1 (fun x hx=>hok x (by simp [hx])) (hat.right (cS_len d s (hok s (by simp)) dep b)) r1 h2
    refine ⟨r2,?_,g2,fun j hj hj2=>by rw [g3 j hj hj2,h3 j hj hj2]⟩
    have:=h1.trans g1
    simpa [foldR,xL,seqT,lenL,Nat.add_assoc] using this
theorem iter_fits {p : Pg} {d : Nat} {bd : List St1} (hb : ∀ s ∈ bd, stmtOK p d s = true) : ∀ (n : Nat) (m : Mm), MemFits p m → MemFits p (iterR (fun m => foldR (runS d) m bd) n m).1
  | 0,m,hm=>hm
  | n+1,m,hm=>(runL_ok (iter_fits hb n m hm) hb).1
theorem cS_run {p : Pg} {C : List In} : ∀ (d dep : Nat) (s : St1) (b : Nat) (m : Mm), d + dep ≤ 5 → MemFits p m → stmtOK p d s = true → At C b (cS d dep b s) → SOk C dep b (lenS d s) m (runS d m s).1 (xS d b m s)
  | 0,_,_,_,_,_,_,h,_=>by simp [stmtOK] at h
  | d+1,dep,.mk k t ix v c bd el,b,m,hdep,hm,h,hat=>fun regs hr=>by
    obtain ⟨hh,hb,he⟩:=stmtOK_succ h
    have ihb:=fun l b m hm hl=>seq_run (p:=p) (C:=C) (fun s b m=>cS_run d (dep+1) s b m (by omega)) l b m hm hl
    rcases head_kind hh with ⟨hk,ht0,ht1,hrt⟩ | ⟨rfl,ht0,ht1,hri,hai,hrt⟩ | ⟨rfl,hrt⟩ | ⟨rfl,hc1,hc3⟩
    · have hs:=(right_shape hrt).1
      have hl:=kE_len 5 v hs 0
      rcases hk with rfl | rfl
      · simp only [cS] at hat
        simp at hat
        obtain ⟨r1,h1,h2,h3,h4⟩:=kE_run hm 5 v 0 b hs (by omega) hat.left regs hr
        have h5:=(hat.right hl).head
        have h6:Reach C ⟨b+cnt 5 v,r1,m⟩ ⟨b+cnt 5 v+1,r1,setV m t (evalE m 5 v).1⟩ [⟨5,(b+cnt 5 v:Nat)⟩] :=
          Reach.one' (s:=⟨b+cnt 5 v,r1,m⟩) h5 (by simp) (by simp [stepM,nth];rw [← List.getD_eq_getElem?_getD,h3])
        refine ⟨r1,?_,h2,fun j hj _=>h4 j (.inr hj)⟩
        simpa [runS,xS,lenS,Nat.add_assoc] using h1.trans h6
      · simp only [cS] at hat
        simp at hat
        obtain ⟨r1,h1,h2,h3,h4⟩:=kE_run hm 5 v 0 b hs (by omega) hat.left regs hr
        have h5:=(hat.right hl).head
        have h7:=(hat.right hl).tail.head
        have h6:Reach C ⟨b+cnt 5 v,r1,m⟩ ⟨b+cnt 5 v+1,r1,m⟩ [⟨5,(b+cnt 5 v:Nat)⟩,⟨4,(evalE m 5 v).1⟩] :=
          Reach.one' (s:=⟨b+cnt 5 v,r1,m⟩) h5 (by simp) (by simp [stepM,nth];rw [← List.getD_eq_getElem?_getD,h3])
        have h8:Reach C ⟨b+cnt 5 v+1,r1,m⟩ ⟨b+cnt 5 v+1+1,r1,setV m t (evalE m 5 v).1⟩ [⟨5,(b+cnt 5 v+1:Nat)⟩] :=
          Reach.one' (s:=⟨b+cnt 5 v+1,r1,m⟩) h7 (by simp) (by simp [stepM,nth];rw [← List.getD_eq_getElem?_getD,h3])
        refine ⟨r1,?_,h2,fun j hj _=>h4 j (.inr hj)⟩
        simpa [runS,xS,lenS,Nat.add_assoc] using (h1.trans h6).trans h8
    · have hs:=(right_shape hrt).1
      have hl:=kE_len 5 v hs 0
      have hl2:=kE_len 5 ix (right_shape hri).1 1
      obtain ⟨ki,vi,rfl,hki⟩:=atom_cnt (right_shape hri).1 hai
      simp only [cS] at hat
      simp at hat
      obtain ⟨r1,h1,h2,h3,h4⟩:=kE_run hm 5 v 0 b hs (by omega) hat.left regs hr
      have hat2:=hat.right hl
      have hs1:CtR.shape p 1 (.mk ki vi [])=true:=by
        obtain ⟨g1,_,g3⟩:=shape_succ (right_shape hri).1
        exact shape_of g1 (by simp) (fun hk=>by rcases hki with rfl | rfl<;>simp at hk)
      have hcE:kE 5 (.mk ki vi []) 1=kE 1 (.mk ki vi []) 1:=rfl
      have hx1:xE m 5 (b+cnt 5 v) (.mk ki vi [])=xE m 1 (b+cnt 5 v) (.mk ki vi []):=rfl
      have hv1:evalE m 5 (.mk ki vi [])=evalE m 1 (.mk ki vi []):=rfl
      have hc1:cnt 5 (.mk ki vi [])=cnt 1 (.mk ki vi []):=rfl
      rw [hc1] at hl2
      rw [hcE] at hat2 hl2
      obtain ⟨r2,i1,i2,i3,i4⟩:=kE_run hm 1 (.mk ki vi []) 1 (b+cnt 5 v) hs1 (by omega) hat2.left r1 h2
      have h5:=(hat2.right hl2).head
      have e0:r2.getD 0 0=(evalE m 5 v).1:=by rw [i4 0 (by omega),h3]
      have h6:Reach C ⟨b+cnt 5 v+cnt 1 (.mk ki vi []),r2,m⟩ ⟨b+cnt 5 v+cnt 1 (.mk ki vi [])+1,r2,setA m t ((evalE m 5 (.mk ki vi [])).1 % 4) (evalE m 5 v).1⟩ [⟨5,(b+cnt 5 v+cnt 1 (.mk ki vi []):Nat)⟩,⟨3,t * 4+(evalE m 5 (.mk ki vi [])).1 % 4⟩] :=
        Reach.one' (s:=⟨b+cnt 5 v+cnt 1 (.mk ki vi []),r2,m⟩) h5 (by simp) (by
          have e1:nth r2 1=(evalE m 5 (.mk ki vi [])).1:=by rw [hv1,← i3];rfl
          have e2:nth r2 0=(evalE m 5 v).1:=by rw [← e0];rfl
          simp [stepM,e1,e2])
      refine ⟨r2,?_,i2,fun j hj _=>by rw [i4 j (.inr hj),h4 j (.inr hj)]⟩
      have:=(h1.trans i1).trans h6
      rw [← hc1,← hx1] at this
      simpa [runS,xS,lenS,Nat.add_assoc] using this
    · have hs:=(right_shape hrt).1
      have hl:=kE_len 5 v hs 0
      have hat : At C b (kE 5 v 0 ++ (⟨9, 0, (b + cnt 5 v + lenL d bd + 2 : Nat), 0, 0⟩ :: (cL d (dep + 1) (b + cnt 5 v + 1) bd ++
        (⟨8,(b+cnt 5 v+lenL d bd+lenL d el+2:Nat),0,0,0⟩ :: cL d (dep+1) (b+cnt 5 v+lenL d bd+2) el)))):=hat
      obtain ⟨r1,h1,h2,h3,h4⟩:=kE_run hm 5 v 0 b hs (by omega) hat.left regs hr
      have hat2:=hat.right hl
      have hat3:=hat2.tail
      have hat4:=hat3.right (cL_len hb)
      have hat5:=hat4.tail
      have e0:nth r1 0=(evalE m 5 v).1:=by rw [← h3];rfl
      by_cases hv:(evalE m 5 v).1=0
      · have h6:Reach C ⟨b+cnt 5 v,r1,m⟩ ⟨b+cnt 5 v+lenL d bd+2,r1,m⟩ [⟨5,(b+cnt 5 v:Nat)⟩] :=
          Reach.one' (s:=⟨b+cnt 5 v,r1,m⟩) hat2.head (by simp) (by simp only [stepM,e0,hv];simp;rfl)
        obtain ⟨r2,i1,i2,i3⟩:=ihb el (b+cnt 5 v+lenL d bd+2) m hm he (by rw [show b+cnt 5 v+lenL d bd+2=b+cnt 5 v+1+lenL d bd+1 by omega] at *;exact hat5) r1 h2
        refine ⟨r2,?_,i2,fun j hj hj2=>by rw [i3 j hj (by omega),h4 j (.inr hj)]⟩
        have:=(h1.trans h6).trans i1
        have e1:(runS (d+1) m (.mk 3 t ix v c bd el)).1=(foldR (runS d) m el).1:=by simp [runS,hv]
        have e2:xS (d+1) b m (.mk 3 t ix v c bd el)=xE m 5 b v++[⟨5,(b+cnt 5 v:Nat)⟩]++xL d (b+cnt 5 v+lenL d bd+2) m el:=by simp [xS,hv,xL]
        rw [e1,e2]
        have e3:b+lenS (d+1) (.mk 3 t ix v c bd el)=b+cnt 5 v+lenL d bd+2+lenL d el:=by simp [lenS,lenL];omega
        rw [e3];exact this
      · have h6:Reach C ⟨b+cnt 5 v,r1,m⟩ ⟨b+cnt 5 v+1,r1,m⟩ [⟨5,(b+cnt 5 v:Nat)⟩] :=
          Reach.one' (s:=⟨b+cnt 5 v,r1,m⟩) hat2.head (by simp) (by simp [stepM,e0,hv])
        obtain ⟨r2,i1,i2,i3⟩:=ihb bd (b+cnt 5 v+1) m hm hb hat3.left r1 h2
        have h7:Reach C ⟨b+cnt 5 v+1+lenL d bd,r2,(foldR (runS d) m bd).1⟩ ⟨b+cnt 5 v+lenL d bd+lenL d el+2,r2,(foldR (runS d) m bd).1⟩ [⟨5,(b+cnt 5 v+1+lenL d bd:Nat)⟩] :=
          Reach.one' (s:=⟨b+cnt 5 v+1+lenL d bd,r2,(foldR (runS d) m bd).1⟩) hat4.head (by simp) (by simp only [stepM];simp;rfl)
        refine ⟨r2,?_,i2,fun j hj hj2=>by rw [i3 j hj (by omega),h4 j (.inr hj)]⟩
        have:=((h1.trans h6).trans i1).trans h7
        have e1:(runS (d+1) m (.mk 3 t ix v c bd el)).1=(foldR (runS d) m bd).1:=by simp [runS,hv]
        have e2:xS (d+1) b m (.mk 3 t ix v c bd el)=xE m 5 b v++[⟨5,(b+cnt 5 v:Nat)⟩]++xL d (b+cnt 5 v+1) m bd++[⟨5,(b+cnt 5 v+1+lenL d bd:Nat)⟩]:=by simp [xS,hv,xL]
        rw [e1,e2]
        have e3:b+lenS (d+1) (.mk 3 t ix v c bd el)=b+cnt 5 v+lenL d bd+lenL d el+2:=by simp [lenS,lenL];omega
        rw [e3];exact this
    · have hat:At C b (⟨1,9+dep,c,0,0⟩ :: (cL d (dep+1) (b+1) bd++[⟨10,9+dep,(b+1:Nat),0,0⟩])):=hat
      have hat2:=hat.tail
      have hlo:=(hat2.right (cL_len hb)).head
      have hreg:(9+(dep:Int)).toNat=9+dep:=by omega
      have h0:Reach C ⟨b,regs,m⟩ ⟨b+1,regs.set (9+dep) c,m⟩ [⟨5,b⟩] :=
        Reach.one' (s:=⟨b,regs,m⟩) hat.head (by simp) (by simp [stepM,hreg])
      have key : ∀ n, n ≤ c.toNat → ∃ r' : List Int, Reach C ⟨b + 1, regs.set (9 + dep) c, m⟩ ⟨if n = c.toNat then b + 1 + lenL d bd + 1 else b + 1, r', (iterR (fun m => foldR (runS d) m bd) n m).1⟩
          (iterX (fun m=>xL d (b+1) m bd++[⟨5,(b+1+lenL d bd:Nat)⟩]) (fun m=>foldR (runS d) m bd) n m)∧r'.length=14∧r'.getD (9+dep) 0=c - n∧∀ j,9≤j→j<9+dep→r'.getD j 0=regs.getD j 0:=by
        intro n
        induction n with
        | zero =>
          intro _
          refine ⟨regs.set (9+dep) c,?_,by simp [hr],by rw [getD_set _ _ _ _ (by omega),if_pos rfl];omega,fun j hj hj2=>by rw [getD_set _ _ _ _ (by omega),if_neg (by omega)]⟩
          rw [if_neg (by omega)]
          exact Reach.rfl
        | succ n ihn =>
          intro hn
          obtain ⟨r1,h1,h2,h3,h4⟩:=ihn (by omega)
          rw [if_neg (by omega)] at h1
          obtain ⟨r2,i1,i2,i3⟩:=ihb bd (b+1) _ (iter_fits hb n m hm) hb hat2.left r1 h2
          have e0:nth r2 (9+(dep:Int))=c - n:=by
            have:nth r2 (9+(dep:Int))=r2.getD (9+dep) 0:=by rw [nth,hreg]
            rw [this,i3 (9+dep) (by omega) (by omega),h3]
          have e1:(c - (n:Int)+255) % 256=c - (n+1:Nat):=by omega
          have h7:Reach C ⟨b+1+lenL d bd,r2,(foldR (runS d) (iterR (fun m=>foldR (runS d) m bd) n m).1 bd).1⟩ ⟨if n+1=c.toNat then b+1+lenL d bd+1 else b+1,r2.set (9+dep) (c - (n+1:Nat)),(foldR (runS d) (iterR (fun m=>foldR (runS d) m bd) n m).1 bd).1⟩ [⟨5,(b+1+lenL d bd:Nat)⟩]:=by
            refine Reach.one' (s:=⟨b+1+lenL d bd,r2,(foldR (runS d) (iterR (fun m=>foldR (runS d) m bd) n m).1 bd).1⟩) hlo (by simp) ?_
            simp only [stepM,e0,e1,hreg]
            have hif:(if c - ((n+1:Nat):Int) ≠ 0 then (((b+1:Nat):Int)).toNat else b+1+lenL d bd+1)=if n+1=c.toNat then b+1+lenL d bd+1 else b+1:=by
              by_cases hc:n+1=c.toNat
              · rw [if_pos hc,if_neg (by omega)]
              · rw [if_neg hc,if_pos (by omega)];omega
            rw [hif]
            simp
          refine ⟨r2.set (9+dep) (c - (n+1:Nat)),?_,by simp [i2],by rw [getD_set _ _ _ _ (by omega),if_pos rfl],fun j hj hj2=>by rw [getD_set _ _ _ _ (by omega),if_neg (by omega),i3 j hj (by omega),h4 j hj hj2]⟩
          have:=(h1.trans i1).trans h7
          simp only [iterX,iterR]
          rw [List.append_assoc] at this
          exact this
      obtain ⟨r1,h1,h2,h3,h4⟩:=key c.toNat (Nat.le_refl _)
      rw [if_pos rfl] at h1
      refine ⟨r1,?_,h2,fun j hj hj2=>h4 j hj hj2⟩
      have:=h0.trans h1
      have e3:b+lenS (d+1) (.mk 4 t ix v c bd el)=b+1+lenL d bd+1:=by simp [lenS,lenL];omega
      have e1:runS (d+1) m (.mk 4 t ix v c bd el)=iterR (fun m=>foldR (runS d) m bd) c.toNat m:=by simp [runS]
      have e2:xS (d+1) b m (.mk 4 t ix v c bd el)=[⟨5,b⟩]++iterX (fun m=>xL d (b+1) m bd++[⟨5,(b+1+lenL d bd:Nat)⟩]) (fun m=>foldR (runS d) m bd) c.toNat m:=by simp [xS,xL]
      rw [e3,e1,e2];exact this
open Go Go.CT CtF CtR
theorem xE_two {p : Pg} {m m' : Mm} : ∀ (d : Nat) (e : Ex), CtR.shape p d e = true → ∀ b, (evalE m d e).2.length = (evalE m' d e).2.length ∧ (xE m d b e).length = (xE m' d b e).length ∧ ((evalE m d e).2 = (evalE m' d e).2 → xE m d b e = xE m' d b e)
  | 0,_,h,_=>by simp [CtR.shape] at h
  | d+1,.mk k v ks,h,b=>by
    rcases shape_form h with ⟨hk,rfl⟩ | ⟨a,rfl,rfl,ha,hat⟩ | ⟨a,b',k4,k10,rfl,ha,hb⟩ | ⟨a,b',c,rfl,rfl,ha,hb,hc⟩
    · rcases hk with ⟨rfl,_⟩ | rfl<;>simp [xE,seqX,evalE]
    · obtain ⟨h1,h2,h3⟩:=xE_two (m:=m) (m':=m') d a ha b
      refine ⟨by simpa [evalE] using h1,by simpa [xE,seqX] using h2,fun h=>?_⟩
      simp only [evalE] at h
      simp at h
      obtain ⟨e1,e2⟩:=h
      simp only [xE,seqX,List.append_nil,if_true,h3 e1]
      simp [e2]
    · have n1:k ≠ 1:=by omega
      have n2:k ≠ 2:=by omega
      have n3:k ≠ 3:=by omega
      have n11:k ≠ 11:=by omega
      obtain ⟨h1,h2,h3⟩:=xE_two (m:=m) (m':=m') d a ha b
      obtain ⟨g1,g2,g3⟩:=xE_two (m:=m) (m':=m') d b' hb (b+cnt d a)
      refine ⟨by simp [evalE,n1,n2,n3,n11,h1,g1],by simp [xE,seqX,n3,h2,g2],fun h=>?_⟩
      simp only [evalE,if_neg n1,if_neg n2,if_neg n3,if_neg n11,List.map_cons,List.map_nil,List.flatten_cons,List.flatten_nil,List.append_nil] at h
      obtain ⟨e1,e2⟩:=List.append_inj h h1
      simp only [xE,seqX,h3 e1,g3 e2,if_neg n3]
    · obtain ⟨h1,h2,h3⟩:=xE_two (m:=m) (m':=m') d a ha b
      obtain ⟨g1,g2,g3⟩:=xE_two (m:=m) (m':=m') d b' hb (b+cnt d a)
      obtain ⟨i1,i2,i3⟩:=xE_two (m:=m) (m':=m') d c hc (b+cnt d a+cnt d b')
      refine ⟨by simp [evalE,h1,g1,i1],by simp [xE,seqX,h2,g2,i2],fun h=>?_⟩
      simp only [evalE,show ¬ ((11:Int)=1) by decide,show ¬ ((11:Int)=2) by decide,show ¬ ((11:Int)=3) by decide,if_true,if_false,List.map_cons,List.map_nil,List.flatten_cons,List.flatten_nil,List.append_nil] at h
      obtain ⟨e1,e2⟩:=List.append_inj h h1
      obtain ⟨e3,e4⟩:=List.append_inj e2 g1
      simp only [xE,seqX,h3 e1,g3 e3,i3 e4,show ¬ ((11:Int)=3) by decide,if_false]
theorem ev_atom {p:Pg} {m:Mm} {d:Nat} {e:Ex} (hs:CtR.shape p d e=true) (ha:atom e=true):(evalE m d e).2=[]:=by
  obtain ⟨k,v,rfl,hk⟩:=atom_mk hs ha
  match d with
  | 0=>rfl
  | d+1=>rcases hk with ⟨rfl,_⟩ | ⟨rfl,_⟩<;>simp [evalE]
theorem seq_leak {f:Nat→Mm→St1→List Ev} {len:St1→Nat} {g:Mm→St1→Mm × List Ev}:∀ (l:List St1) (b:Nat) (m m':Mm) (r r':List Ev),
    (∀ s ∈ l,∀ b m m' r r',(g m s).2++r=(g m' s).2++r'→(g m s).2=(g m' s).2∧r=r'∧f b m s=f b m' s) →
    (foldR g m l).2++r=(foldR g m' l).2++r'→(foldR g m l).2=(foldR g m' l).2∧r=r'∧seqT f len g b m l=seqT f len g b m' l
  | [],_,_,_,_,_,_,h=>⟨rfl,by simpa [foldR] using h,rfl⟩
  | s :: t,b,m,m',r,r',hs,h=>by
    simp only [foldR,List.append_assoc] at h
    obtain ⟨e1,e2,e3⟩:=hs s (by simp) b m m' _ _ h
    obtain ⟨g1,g2,g3⟩:=seq_leak t (b+len s) _ _ r r' (fun s h=>hs s (by simp [h])) e2
    exact ⟨by simp only [foldR];rw [e1,g1],g2,by simp only [seqT];rw [e3,g3]⟩
theorem iter_leak {f:Mm→List Ev} {g:Mm→Mm × List Ev} (hs:∀ m m' r r',(g m).2++r=(g m').2++r'→(g m).2=(g m').2∧r=r'∧f m=f m'):∀ (n:Nat) (m m':Mm) (r r':List Ev),
    (iterR g n m).2++r=(iterR g n m').2++r'→(iterR g n m).2=(iterR g n m').2∧r=r'∧iterX f g n m=iterX f g n m'
  | 0,_,_,_,_,h=>⟨rfl,by simpa [iterR] using h,rfl⟩
  | n+1,m,m',r,r',h=>by
    simp only [iterR,List.append_assoc] at h
    obtain ⟨e1,e2,e3⟩:=iter_leak hs n m m' _ _ h
    obtain ⟨g1,g2,g3⟩:=hs _ _ r r' e2
    exact ⟨by simp only [iterR];rw [e1,g1],g2,by simp only [iterX];rw [e3,g3]⟩
theorem xS_leak {p : Pg} : ∀ (d : Nat) (s : St1), stmtOK p d s = true → ∀ b m m' r r', (runS d m s).2 ++ r = (runS d m' s).2 ++ r' → (runS d m s).2 = (runS d m' s).2 ∧ r = r' ∧ xS d b m s = xS d b m' s
  | 0,_,h=>by simp [stmtOK] at h
  | d+1,.mk k t ix v c bd el,h=>fun b m m' r r' heq=>by
    obtain ⟨hh,hb,he⟩:=stmtOK_succ h
    have ib:=fun b m m' r r'=>seq_leak (f:=xS d) (len:=lenS d) (g:=runS d) bd b m m' r r' fun s hs b m m' r r'=>xS_leak d s (hb s hs) b m m' r r'
    have ie:=fun b m m' r r'=>seq_leak (f:=xS d) (len:=lenS d) (g:=runS d) el b m m' r r' fun s hs b m m' r r'=>xS_leak d s (he s hs) b m m' r r'
    rcases head_kind hh with ⟨hk,ht0,ht1,hr⟩ | ⟨rfl,ht0,ht1,hri,hai,hr⟩ | ⟨rfl,hr⟩ | ⟨rfl,hc1,hc3⟩
    · obtain ⟨l1,l2,l3⟩:=xE_two (m:=m) (m':=m') 5 v (right_shape hr).1 b
      rcases hk with rfl | rfl
      · simp only [runS] at heq ⊢
        simp at heq ⊢
        obtain ⟨e1,e2⟩:=List.append_inj heq l1
        exact ⟨e1,e2,by simp [xS,l3 e1]⟩
      · simp only [runS] at heq ⊢
        simp at heq ⊢
        obtain ⟨e1,e2⟩:=List.append_inj heq l1
        simp at e2
        exact ⟨by simp [e1,e2.1],e2.2,by simp [xS,l3 e1,e2.1]⟩
    · obtain ⟨l1,l2,l3⟩:=xE_two (m:=m) (m':=m') 5 v (right_shape hr).1 b
      obtain ⟨_,_,j3⟩:=xE_two (m:=m) (m':=m') 5 ix (right_shape hri).1 (b+cnt 5 v)
      have j4:=j3 (by rw [ev_atom (right_shape hri).1 hai,ev_atom (right_shape hri).1 hai])
      simp only [runS] at heq ⊢
      simp at heq ⊢
      obtain ⟨e1,e2⟩:=List.append_inj heq l1
      simp at e2
      exact ⟨by simp [e1,e2.1],e2.2,by simp [xS,l3 e1,e2.1,j4]⟩
    · obtain ⟨l1,l2,l3⟩:=xE_two (m:=m) (m':=m') 5 v (right_shape hr).1 b
      by_cases h1:(evalE m 5 v).1=0<;>by_cases h2:(evalE m' 5 v).1=0
      · simp [runS,h1,h2] at heq ⊢
        obtain ⟨e1,e2⟩:=List.append_inj heq l1
        simp at e2
        obtain ⟨g1,g2,g3⟩:=ie (b+cnt 5 v+lenL d bd+2) m m' r r' e2
        exact ⟨by rw [e1,g1],g2,by simp [xS,h1,h2,l3 e1,g3]⟩
      · simp [runS,h1,h2] at heq
        obtain ⟨e1,e2⟩:=List.append_inj heq l1
        simp at e2
      · simp [runS,h1,h2] at heq
        obtain ⟨e1,e2⟩:=List.append_inj heq l1
        simp at e2
      · simp [runS,h1,h2] at heq ⊢
        obtain ⟨e1,e2⟩:=List.append_inj heq l1
        simp at e2
        obtain ⟨g1,g2,g3⟩:=ib (b+cnt 5 v+1) m m' r r' e2
        exact ⟨by rw [e1,g1],g2,by simp [xS,h1,h2,l3 e1,g3]⟩
    · have e1:∀ m,runS (d+1) m (.mk 4 t ix v c bd el)=iterR (fun m=>foldR (runS d) m bd) c.toNat m:=fun m=>by simp [runS]
      rw [e1,e1] at heq ⊢
      have:=iter_leak (f:=fun m=>seqT (xS d) (lenS d) (runS d) (b+1) m bd++[⟨5,(b+1+lenL d bd:Nat)⟩]) (g:=fun m=>foldR (runS d) m bd) (fun m m' r r' h=>by
        obtain ⟨g1,g2,g3⟩:=ib (b+1) m m' r r' h
        exact ⟨g1,g2,by rw [g3]⟩) c.toNat m m' r r' heq
      refine ⟨this.1,this.2.1,?_⟩
      simp only [xS,if_true]
      rw [this.2.2]
open Go Go.CT CtF CtR
def kindsOf (op:Int):List Nat :=
  if op=1 then [1,2,0,0] else if op=2 then [1,3,0,0] else if op=3 then [3,1,0,0] else if op=4 then [1,4,1,0] else if op=5 then [4,1,1,0]
  else if op=6 then [1,5,1,1] else if op=7 then [1,1,1,1] else if op=8 then [6,0,0,0] else if op=9 then [1,6,0,0] else if op=10 then [1,6,0,0]
  else if op=11 then [1,0,0,0] else [0,0,0,0]
def topOf (nv na nl:Nat) (k:Nat):Int:=if k=0 then 0 else if k=1 then 13 else if k=2 then 255 else if k=3 then (nv:Int) - 1 else if k=4 then (na:Int) - 1 else if k=5 then 10 else (nl:Int) - 1
def fOK (nv na nl:Nat) (k:Nat) (n:Int):Bool:=decide ((if k=5 then 4 else 0)≤n) && decide (n≤topOf nv na nl k)
def inOK (nv na nl:Nat) (x:In):Bool:=decide (1≤x.op) && decide (x.op≤13) && fOK nv na nl ((kindsOf x.op).getD 0 0) x.a && fOK nv na nl ((kindsOf x.op).getD 1 0) x.b && fOK nv na nl ((kindsOf x.op).getD 2 0) x.c && fOK nv na nl ((kindsOf x.op).getD 3 0) x.d
def endOK (l:List In):Bool:=(atC l (l.length - 1)).op == 13 || (atC l (l.length - 1)).op == 8
def codeOK (c:Cd):Bool:=headsOK c.vars c.arrays && decide (1≤(c.list.length:Int)) && decide ((c.list.length:Int)≤400) && c.list.all (inOK c.vars.length c.arrays.length c.list.length) && endOK c.list
theorem seqE_mem {f : Ex → Nat → List In} {x : In} : ∀ (l : List Ex) (n : Nat), x ∈ seqE f n l → ∃ e ∈ l, ∃ j, n ≤ j ∧ j < n + l.length ∧ x ∈ f e j
  | [],n,h=>by simp [seqE] at h
  | a :: r,n,h=>by
    rw [seqE,List.mem_append] at h
    rcases h with h | h
    · exact ⟨a,by simp,n,by simp,by simp,h⟩
    · obtain ⟨e,he,j,h1,h2,h3⟩:=seqE_mem r (n+1) h
      exact ⟨e,by simp [he],j,by omega,by simp;omega,h3⟩
theorem kE_ok {p : Pg} {nl : Nat} : ∀ (d : Nat) (e : Ex) (n : Nat), CtR.shape p d e = true → n + 2 * d ≤ 13 → ∀ x ∈ kE d e n, inOK p.vars.length p.arrays.length nl x = true ∧ x.op < 8
  | 0,_,_,h,_,_,_=>by simp [CtR.shape] at h
  | d+1,.mk k v ks,n,h,hn,x,hx=>by
    obtain ⟨g1,g2,g3⟩:=shape_succ h
    obtain ⟨_,_,hv0,hv1⟩:=fits_len g1
    rcases shape_form h with ⟨hk,rfl⟩ | ⟨a,rfl,rfl,ha,hat⟩ | ⟨a,b',k4,k10,rfl,ha,hb⟩ | ⟨a,b',c,rfl,rfl,ha,hb,hc⟩
    · rcases hk with ⟨rfl,h0,h1⟩ | rfl
      · simp [kE] at hx;subst hx
        simp [inOK,kindsOf,fOK,topOf];omega
      · simp [kE] at hx;subst hx
        simp [limit] at hv1
        simp [inOK,kindsOf,fOK,topOf];omega
    all_goals
      rw [kE,if_neg (by omega),if_neg (by omega),List.mem_append,List.mem_singleton] at hx
      rcases hx with hx | hx
      · obtain ⟨e,he,j,h1,h2,h3⟩:=seqE_mem _ _ hx
        exact kE_ok d e j (g2 e he) (by simp at h2;omega) x h3
    · simp [limit] at hv1
      subst hx
      simp [lastE,inOK,kindsOf,fOK,topOf];omega
    · subst hx
      have n3:k ≠ 3:=by omega
      have n11:k ≠ 11:=by omega
      simp [lastE,n3,n11,inOK,kindsOf,fOK,topOf];omega
    · subst hx
      simp [lastE,inOK,kindsOf,fOK,topOf];omega
theorem seqS_mem {f : Nat → St1 → List In} {len : St1 → Nat} {x : In} : ∀ (l : List St1) (b : Nat), x ∈ seqS f len b l → ∃ s ∈ l, ∃ j, b ≤ j ∧ j + len s ≤ b + (l.map len).sum ∧ x ∈ f j s
  | [],b,h=>by simp [seqS] at h
  | a :: r,b,h=>by
    rw [seqS,List.mem_append] at h
    rcases h with h | h
    · exact ⟨a,by simp,b,by simp,by simp,h⟩
    · obtain ⟨e,he,j,h1,h2,h3⟩:=seqS_mem r _ h
      exact ⟨e,by simp [he],j,by omega,by simp only [List.map_cons,List.sum_cons];omega,h3⟩
def goodI (p:Pg) (nl:Nat) (x:In):Prop:=inOK p.vars.length p.arrays.length nl x=true∧(x.op=10→9≤x.a)
theorem cS_ok {p : Pg} {nl : Nat} : ∀ (d dep : Nat) (s : St1) (b : Nat), d + dep ≤ 5 → stmtOK p d s = true → b + lenS d s < nl → ∀ x ∈ cS d dep b s, goodI p nl x
  | 0,_,_,_,_,h,_,_,_=>by simp [stmtOK] at h
  | d+1,dep,.mk k t ix v c bd el,b,hd,h,hlt,x,hx=>by
    obtain ⟨hh,hb,he⟩:=stmtOK_succ h
    have ge:∀ e n,CtR.shape p 5 e=true→n≤3→x ∈ kE 5 e n→goodI p nl x:=fun e n hs hn hx=>by
      obtain ⟨h1,h2⟩:=kE_ok 5 e n hs (by omega) x hx
      exact ⟨h1,fun h=>by omega⟩
    have gb:∀ l b',(∀ s ∈ l,stmtOK p d s=true)→b' + lenL d l<nl→x ∈ seqS (cS d (dep+1)) (lenS d) b' l→goodI p nl x:=fun l b' hl hlt hx=>by
      obtain ⟨s,hs,j,h1,h2,h3⟩:=seqS_mem l b' hx
      exact cS_ok d (dep+1) s j (by omega) (hl s hs) (by unfold lenL at hlt;omega) x h3
    rcases head_kind hh with ⟨hk,ht0,ht1,hr⟩ | ⟨rfl,ht0,ht1,hri,hai,hr⟩ | ⟨rfl,hr⟩ | ⟨rfl,hc1,hc3⟩
    · rcases hk with rfl | rfl
      · simp [cS] at hx
        rcases hx with hx | hx
        · exact ge v 0 (right_shape hr).1 (by omega) hx
        · subst hx;refine ⟨?_,by simp⟩
          simp [inOK,kindsOf,fOK,topOf];omega
      · simp [cS] at hx
        rcases hx with hx | hx | hx
        · exact ge v 0 (right_shape hr).1 (by omega) hx
        · subst hx;refine ⟨?_,by simp⟩
          simp [inOK,kindsOf,fOK,topOf]
        · subst hx;refine ⟨?_,by simp⟩
          simp [inOK,kindsOf,fOK,topOf];omega
    · simp [cS] at hx
      rcases hx with hx | hx | hx
      · exact ge v 0 (right_shape hr).1 (by omega) hx
      · exact ge ix 1 (right_shape hri).1 (by omega) hx
      · subst hx;refine ⟨?_,by simp⟩
        simp [inOK,kindsOf,fOK,topOf];omega
    · have hlen:lenS (d+1) (.mk 3 t ix v c bd el)=cnt 5 v+lenL d bd+lenL d el+2:=by simp [lenS,lenL]
      rw [hlen] at hlt
      have hx : x ∈ kE 5 v 0 ++ (⟨9, 0, (b + cnt 5 v + lenL d bd + 2 : Nat), 0, 0⟩ :: (seqS (cS d (dep + 1)) (lenS d) (b + cnt 5 v + 1) bd ++
        (⟨8,(b+cnt 5 v+lenL d bd+lenL d el+2:Nat),0,0,0⟩ :: seqS (cS d (dep+1)) (lenS d) (b+cnt 5 v+lenL d bd+2) el))):=hx
      simp only [List.mem_append,List.mem_cons] at hx
      rcases hx with hx | hx | hx | hx | hx
      · exact ge v 0 (right_shape hr).1 (by omega) hx
      · subst hx;refine ⟨?_,by simp⟩
        simp [inOK,kindsOf,fOK,topOf];omega
      · exact gb bd _ hb (by omega) hx
      · subst hx;refine ⟨?_,by simp⟩
        simp [inOK,kindsOf,fOK,topOf];omega
      · exact gb el _ he (by omega) hx
    · have hlen:lenS (d+1) (.mk 4 t ix v c bd el)=lenL d bd+2:=by simp [lenS,lenL]
      rw [hlen] at hlt
      have hx:x ∈ ⟨1,9+dep,c,0,0⟩ :: (seqS (cS d (dep+1)) (lenS d) (b+1) bd++[⟨10,9+dep,(b+1:Nat),0,0⟩]):=hx
      simp only [List.mem_append,List.mem_cons,List.not_mem_nil,or_false] at hx
      rcases hx with hx | hx | hx
      · subst hx;refine ⟨?_,by simp⟩
        simp [inOK,kindsOf,fOK,topOf];omega
      · exact gb bd _ hb (by omega) hx
      · subst hx;refine ⟨?_,fun _=>by show (9:Int)≤9+(dep:Int);omega⟩
        simp [inOK,kindsOf,fOK,topOf];omega
def compL (p:Pg):List In:=cL 5 0 0 p.body++[halt]
def compP (p:Pg):Cd × Bool:=if progOK p=true∧lenL 5 p.body+1≤400 then (⟨p.vars,p.arrays,compL p⟩,true) else (⟨[],[],[]⟩,false)
theorem compL_len {p:Pg} (h:progOK p=true):(compL p).length=lenL 5 p.body+1:=by
  rw [compL,List.length_append,cL_len (body_of h).1];rfl
theorem compL_end {p:Pg} (h:progOK p=true):(compL p)[lenL 5 p.body]? = some halt:=by
  have:=cL_len (dep:=0) (b:=0) (body_of h).1
  rw [compL,List.getElem?_append_right (by omega),this];simp
theorem compL_good {p:Pg} (h:progOK p=true):∀ x ∈ compL p,goodI p (compL p).length x:=by
  intro x hx
  rw [compL_len h]
  rw [compL,List.mem_append,List.mem_singleton] at hx
  rcases hx with hx | rfl
  · obtain ⟨s,hs,j,h1,h2,h3⟩:=seqS_mem p.body 0 hx
    exact cS_ok 5 0 s j (by omega) ((body_of h).1 s hs) (by unfold lenL;omega) x h3
  · exact ⟨by simp [halt,inOK,kindsOf,fOK,topOf],by simp [halt]⟩
theorem comp_valid {p:Pg} (h:progOK p=true) (hl:lenL 5 p.body+1≤400):codeOK ⟨p.vars,p.arrays,compL p⟩=true:=by
  have h1:=compL_len h
  have h2:=compL_end h
  have h3:=compL_good h
  have hh:headsOK p.vars p.arrays=true:=by
    simp only [progOK,Bool.and_eq_true] at h;exact h.1.1
  simp only [codeOK,Bool.and_eq_true,List.all_eq_true,decide_eq_true_eq,hh,true_and]
  refine ⟨⟨⟨by omega,by omega⟩,fun x hx=>(h3 x hx).1⟩,?_⟩
  have:atC (compL p) ((compL p).length - 1)=halt:=by
    rw [h1,atC,List.getD_eq_getElem?_getD,Nat.add_sub_cancel,h2];rfl
  simp only [endOK]
  rw [this];rfl
def xP (p:Pg) (m:Mm):List Ev:=xL 5 0 m p.body++[⟨5,(lenL 5 p.body:Nat)⟩]
theorem memFits2 {p:Pg} {m:Mm} (h:progOK p=true) (hm:memOK p.vars p.arrays m=true):MemFits p m:=memFits_of (by rw [h,hm];rfl)
theorem xP_leak {p:Pg} {m m':Mm} (h:progOK p=true) (he:(runL 5 m p.body).2=(runL 5 m' p.body).2):xP p m=xP p m':=by
  have:=seq_leak (f:=xS 5) (len:=lenS 5) (g:=runS 5) p.body 0 m m' [] [] (fun s hs b m m' r r'=>xS_leak 5 s ((body_of h).1 s hs) b m m' r r') (by rw [List.append_nil,List.append_nil];exact he)
  simp only [xP,xL]
  rw [this.2.2]
end Go.Proofs.YtbknljofedfpjaaGreat.CtL
namespace Go.Proofs.YtbknljofedfpjaaGreat.CtD
open Go Go.CT CtF CtR
variable [Yn]
open CtL (In Cd kE cL cS seqE lenS lenL)
def inX (x:In):List C:=[I64 x.op,I64 x.a,I64 x.b,I64 x.c,I64 x.d]
def inC (l:List In):List C:=(l.map inX).flatten
theorem inC_len (l:List In):(inC l).length=l.length * 5:=by
  unfold inC
  induction l with
  | nil=>rfl
  | cons a r ih=>simp only [List.map_cons,List.flatten_cons,List.length_append,ih,inX,List.length_cons,List.length_nil];omega
theorem inC_app (a b:List In):inC (a++b)=inC a++inC b:=by simp [inC]
theorem inC_one (x:In):inC [x]=inX x:=by simp [inC]
theorem inC_kf (l:List In):∀ c ∈ inC l,kf c=true:=by
  unfold inC
  intro c hc
  obtain ⟨x,hx,hc⟩:=List.mem_flatten.1 hc
  obtain ⟨e,_,rfl⟩:=List.mem_map.1 hx
  simp only [inX,List.mem_cons,List.not_mem_nil,or_false] at hc
  rcases hc with rfl | rfl | rfl | rfl | rfl<;>rfl
theorem renCs_in (r:Nat→Nat) (l:List In):renCs r (inC l)=inC l:=by
  unfold inC
  induction l with
  | nil=>rfl
  | cons a t ih=>simp only [List.map_cons,List.flatten_cons,inX,List.cons_append,List.nil_append,renCs,renC,ih]
theorem CMs_in {hT hS:Hp} {r:Nat→Option Nat} {fz:List Nat} (l:List In):CMs hT r hS fz (inC l) (inC l)=True:=eq_true (CMs.kf (inC_kf l))
theorem I_app (a b:List Int):(a++b).map I64=a.map I64++b.map I64:=List.map_append
abbrev CsD (k j:Nat) (L:List In) (O:List Int) (a:Int):D := .agg [.msl k 5 0 L.length,.msl j 1 0 O.length,I64 a]
abbrev CsH (L:List In) (O:List Int):List (Option (List C)):=[some (inC L),some (O.map I64)]
abbrev CsR (L:List In) (O:List Int):List (Option (List C)):=[none,none,some (inC L),some (O.map I64)]
theorem RetOb.csA {R : D → List (Option (List C)) → Prop} {L : List In} {O : List Int} {a : Int} {hp : Hp} {ka kb n1 n2 : Nat} {c1 c2 : List C} (hR : R (CsD 2 3 L O a) (CsR L O)) (ha : hp ka = some (some c1)) (hb : hp kb = some (some c2))
    (e1:c1=inC L) (e2:c2=O.map I64) (e3:n1=L.length) (e4:n2=O.length) (nab:ka ≠ kb) (h0:hp 0 ≠ none) (h1:hp 1 ≠ none):RetOb 2 R (.agg [.msl ka 5 0 n1,.msl kb 1 0 n2,I64 a]) hp:=by
  subst e1 e2 e3 e4
  refine RetOb.ofQ (fun j=>if j=2 then some ka else if j=3 then some kb else some j) [] (CsD 2 3 L O a) (CsR L O) ?_ hR (by simp [CsR])
  simp [CsR,CsD,enumL,hOf,DM,DMs,CM,CMs,HpOK,LowOK,upd,ha,hb,nab,CMs_I,CMs_in,h0,h1]
theorem csAdd (L : List In) (O : List Int) (a st op xa xb xc xd : Int) (hL : L.length ≤ 100000) (hO : O.length ≤ 100000) : DC Tryz.prog 93 [CsD 0 1 L O a, DI .i64 st, .agg [I64 op, I64 xa, I64 xb, I64 xc, I64 xd]] (CsH L O)
    (fun r h=>r=CsD 2 3 (L++[⟨op,xa,xb,xc,xd⟩]) (O++[st]) a∧h=CsR (L++[⟨op,xa,xb,xc,xd⟩]) (O++[st])):=by
  have hmx:=mx_eq
  have hcl:=inC_len L
  generalize hR:(fun (r:D) (h:List (Option (List C)))=>r=CsD 2 3 (L++[⟨op,xa,xb,xc,xd⟩]) (O++[st]) a∧h=CsR (L++[⟨op,xa,xb,xc,xd⟩]) (O++[st]))=R
  refine dcZ Tryz.func93 ?_
  simp only [go_sem,hcl]
  iterate 5 ((try (refine drvZ Tryz.func93 ?_;simp only [go_sem,hcl,List.length_map]));((with_reducible and_intros)<;>try exact sd))
  exact RetOb.csA (L:=L++[⟨op,xa,xb,xc,xd⟩]) (O:=O++[st]) (by rw [← hR];exact ⟨rfl,rfl⟩) rfl rfl (by simp [inC_app,inC_one,inX]) (by simp) (by simp) (by simp) (by decide) (by simp [upd,hpL]) (by simp [upd,hpL])
end Go.Proofs.YtbknljofedfpjaaGreat.CtD
