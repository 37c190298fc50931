/- Contracts of functions of the program, one behind the other, as plain data: what each call returns and which blocks it leaves. -/
import Derived.Test.YtmjkgjkkpaephaaGreatXFacts
import Derived.Test.YtmjkgjkkpaephaaGreatXAh
import Derived.Test.YtmjkgjkkpaephaaGreatXAj
import Derived.Test.YtmjkgjkkpaephaaGreatXAl
import Derived.Test.YtmjkgjkkpaephaaGreatXAk
import Derived.Test.YtmjkgjkkpaephaaGreatXAi
set_option linter.unusedVariables false
set_option linter.unusedSimpArgs false
set_option maxHeartbeats 16000000
set_option maxRecDepth 100000
namespace Go.Proofs.YtmjkgjkkpaephaaGreat.CtD
open Go Go.CT CtF CtR
end Go.Proofs.YtmjkgjkkpaephaaGreat.CtD
namespace Go.Proofs.YtmjkgjkkpaephaaGreat.CtR
open Go Go.CT CtF
end Go.Proofs.YtmjkgjkkpaephaaGreat.CtR
namespace Go.Proofs.YtmjkgjkkpaephaaGreat.CtD
open Go Go.CT CtF CtR
def bl (n N:Nat):List Bool:=(List.range n).map fun i=>N.testBit i
def rowsB (w:Nat) (S:List Nat):List (List C):=S.map fun N=>boolsC (bl w N)
theorem rowsB_len (w:Nat) (S:List Nat):(rowsB w S).length=S.length:=by simp [rowsB]
theorem rowsB_kf (w:Nat) (S:List Nat):∀ x ∈ rowsB w S,∀ c ∈ x,kf c=true:=fun x hx c hc=>by
  obtain ⟨N,_,rfl⟩:=List.mem_map.1 hx;exact boolsC_kf _ c hc
theorem fam_row {hp:Hp} {b w i:Nat} {S:List Nat} {row:List C} (hS:S.length≤32) (h:(rowsB w S)[i]? = some row):fam hp b (rowsB w S) (b+i)=some (some row):=by
  have:=(List.getElem?_eq_some_iff.1 h).1
  rw [rowsB_len] at this
  rw [fam_at (by omega),h];rfl
theorem SubH.rows {m : Nat} {r : Nat → Option Nat} {hl : List (Nat × Option (List C))} {hp : Hp} {b b' w : Nat} {S : List Nat} (hS : S.length ≤ 32) (hr : ∀ i, i < S.length → r (b + i) = some (b' + i))
    (hok:HpOK (fam (hOf hl) b (rowsB w S)) r (fam hp b' (rowsB w S)) [] hl) (hlow:LowOK r (fam (hOf hl) b (rowsB w S)) m) (hnd:((hl.filterMap fun p=>p.2.map fun _=>p.1).filterMap r).Nodup)
    (hdis:∀ p ∈ hl,∀ j,r p.1=some j→j<b'∨b' + 32≤j):SubH m r [] (fam (hOf hl) b (rowsB w S)) (fam hp b' (rowsB w S)):=by
  have hl0:=rowsB_len w S
  refine SubH.fam (fun n=>b' + n) (fun i hi=>hr i (by omega)) (fun i j hi hj h=>by omega) (fun i hi=>by simp) (fun i row hi=>fam_row hS hi) (rowsB_kf w S) hok hlow hnd ?_
  intro k j cs hm hj i hi e
  have:=hdis _ hm j hj
  omega
end Go.Proofs.YtmjkgjkkpaephaaGreat.CtD
namespace Go.Proofs.YtmjkgjkkpaephaaGreat.CtR
open Go Go.CT CtF
theorem firstDifference (xs ys:List Ev) (hl:xs.length≤mx) (hl2:ys.length≤mx):DC Tryz.prog 78 [.c (trD xs),.c (trD ys)] [] (fun r h=>r=DI .i64 (fdif xs ys 0)∧h=[]):=by
  have hmx:=mx_eq
  have ret:∀ (n:Int) (hp:Hp),n=fdif xs ys 0→RetOb 0 (fun r h=>r=DI .i64 (fdif xs ys 0)∧h=[]) (DI .i64 n) hp:=fun n hp h=>RetOb.plain (d:=DI .i64 _) ⟨by rw [h],rfl⟩ rfl
  generalize hR:(fun (r:D) (h:List (Option (List C)))=>r=DI .i64 (fdif xs ys 0)∧h=[])=R at ret ⊢
  clear hR
  refine dcZ Tryz.func78 ?_
  simp only [go_sem,trD]
  ((try (refine drvZ Tryz.func78 ?_;simp only [go_sem,trD]));((with_reducible and_intros)<;>try exact sd))
  obtain ⟨M,hM,hM1,hM2,hM3⟩:∃ M:Nat,(if (xs.length:Int)<(ys.length:Int) then (ys.length:Int) else (xs.length:Int))=(M:Int)∧xs.length≤M∧ys.length≤M∧M≤mx∧(M≤xs.length∨M≤ys.length):=by
    by_cases h:(xs.length:Int)<(ys.length:Int)
    · exact ⟨ys.length,if_pos h,by omega,by omega,by omega,by omega⟩
    · exact ⟨xs.length,if_neg h,by omega,by omega,by omega,by omega⟩
  try simp only [Int.ofNat_lt] at hM
  try rw [hM]
  refine Go.loopQ (fun i:Nat=>[(0,.c (trD xs)),(1,.c (trD ys)),(10,DI .i64 M),(11,DI .i64 i)]) (fun _=>[]) 1024 (fun i=>i≤M∧fdif (xs.drop i) (ys.drop i) i=fdif xs ys 0) (fun i=>M - i) ?_ 0 some [] _ ⟨Nat.zero_le _,rfl⟩ ?_
  · intro i hi again
    have hI:=hi.2
    rcases Nat.lt_or_ge i M with hlt | hge
    · have hcs:(xs.length≤i)∨(i<xs.length∧ys.length≤i)∨(i<xs.length∧i<ys.length):=by omega
      rcases hcs with hx | ⟨hx,hy⟩ | ⟨hx,hy⟩
      · have hdx:xs.drop i=[]:=List.drop_of_length_le hx
        have hy:i<ys.length:=by omega
        rw [hdx,List.drop_eq_getElem_cons hy] at hI
        have hn:((xs.length:Int)≤(i:Int))=True:=eq_true (by omega)
        have hxn:xs[i]? = none:=List.getElem?_eq_none hx
        obtain ⟨y,hyy⟩:∃ y,ys[i]? = some y:=⟨ys[i],by simp [hy]⟩
        obtain ⟨yk,yv⟩:=y
        refine drvL Tryz.func78 ?_
        simp only [go_sem,trD,hlt]
        iterate 4 ((try (refine drvZ Tryz.func78 ?_;simp only [go_sem,trD,hlt,hn,hxn,hyy,Ev.cells]));((with_reducible and_intros)<;>try exact sd))
        exact ret _ _ (by rw [← hI];rfl)
      · have hdy:ys.drop i=[]:=List.drop_of_length_le hy
        rw [hdy,List.drop_eq_getElem_cons hx] at hI
        have hn:((xs.length:Int)≤(i:Int))=False:=eq_false (by omega)
        have hn2:((ys.length:Int)≤(i:Int))=True:=eq_true (by omega)
        have hyn:ys[i]? = none:=List.getElem?_eq_none hy
        obtain ⟨x,hxx⟩:∃ x,xs[i]? = some x:=⟨xs[i],by simp [hx]⟩
        obtain ⟨xk,xv⟩:=x
        refine drvL Tryz.func78 ?_
        simp only [go_sem,trD,hlt]
        iterate 4 ((try (refine drvZ Tryz.func78 ?_;simp only [go_sem,trD,hlt,hn,hn2,hyn,hxx,Ev.cells]));((with_reducible and_intros)<;>try exact sd))
        exact ret _ _ (by rw [← hI];rfl)
      · have hn:((xs.length:Int)≤(i:Int))=False:=eq_false (by omega)
        have hn2:((ys.length:Int)≤(i:Int))=False:=eq_false (by omega)
        obtain ⟨x,hxx⟩:∃ x,xs[i]? = some x:=⟨xs[i],by simp [hx]⟩
        obtain ⟨y,hyy⟩:∃ y,ys[i]? = some y:=⟨ys[i],by simp [hy]⟩
        rw [List.drop_eq_getElem_cons hx,List.drop_eq_getElem_cons hy,(List.getElem?_eq_some_iff.1 hxx).2,(List.getElem?_eq_some_iff.1 hyy).2] at hI
        obtain ⟨xk,xv⟩:=x
        obtain ⟨yk,yv⟩:=y
        simp only [fdif] at hI
        by_cases he:xk=yk∧xv=yv
        · obtain ⟨rfl,rfl⟩:=he
          rw [if_pos ⟨rfl,rfl⟩] at hI
          refine drvL Tryz.func78 ?_
          simp only [go_sem,trD,hlt]
          iterate 4 ((try (refine drvZ Tryz.func78 ?_;simp only [go_sem,trD,hlt,hn,hn2,hxx,hyy,Ev.cells]));((with_reducible and_intros)<;>try exact sd))
          refine again (i+1) some [] _ ⟨hlt,by rw [← hI];rfl⟩ (by omega) ?_
          simp only [go_sem,TmOK,DM,DMs,CM,CMs,forall_eq,exists_eq_left,Mq,HpOK,LowOK,trD]
          try simp
        · rw [if_neg he] at hI
          have hd:(decide (xk=yk) && decide (xv=yv))=false:=by
            cases h1:decide (xk=yk) with
            | false=>rfl
            | true =>
              cases h2:decide (xv=yv) with
              | false=>rfl
              | true=>exact absurd ⟨of_decide_eq_true h1,of_decide_eq_true h2⟩ he
          refine drvL Tryz.func78 ?_
          simp only [go_sem,trD,hlt]
          iterate 4 ((try (refine drvZ Tryz.func78 ?_;simp only [go_sem,trD,hlt,hn,hn2,hxx,hyy,Ev.cells,hd]));((with_reducible and_intros)<;>try exact sd))
          exact ret _ _ hI
    · have hn:¬ i<M:=by omega
      refine drvL Tryz.func78 ?_
      simp only [go_sem,trD,hn]
      iterate 2 ((try (refine drvZ Tryz.func78 ?_;simp only [go_sem,trD,hn]));((with_reducible and_intros)<;>try exact sd))
      have e1:xs.drop i=[]:=List.drop_of_length_le (by omega)
      have e2:ys.drop i=[]:=List.drop_of_length_le (by omega)
      exact ret _ _ (by rw [← hI,e1,e2];rfl)
  · simp only [go_sem,TmOK,DM,DMs,CM,CMs,forall_eq,exists_eq_left,Mq,HpOK,LowOK,trD]
    try simp
end Go.Proofs.YtmjkgjkkpaephaaGreat.CtR
namespace Go.Proofs.YtmjkgjkkpaephaaGreat.CtD
open Go Go.CT CtF CtR
end Go.Proofs.YtmjkgjkkpaephaaGreat.CtD
namespace Go.Proofs.YtmjkgjkkpaephaaGreat.CtR
open Go Go.CT CtF
theorem fdif_ge : ∀ (xs ys : List Ev) (n : Int), 0 ≤ n → fdif xs ys n = -1 ∨ n ≤ fdif xs ys n
  | [],[],n,_ => .inl rfl
  | [],b :: r,n,_ => .inr (Int.le_refl _)
  | a :: r,[],n,_ => .inr (Int.le_refl _)
  | a :: r,b :: s,n,h=>by
    simp only [fdif]
    split
    · rcases fdif_ge r s (n+1) (by omega) with h1 | h1
      · exact .inl h1
      · exact .inr (by omega)
    · exact .inr (Int.le_refl _)
end Go.Proofs.YtmjkgjkkpaephaaGreat.CtR
namespace Go.Proofs.YtmjkgjkkpaephaaGreat.CtL
open Go Go.CT CtF CtR
def e0:Ex := .mk 0 0 []
theorem read_kid {p:Pg} {d:Nat} {v:Int} {ks:List Ex} (h:CtR.shape p (d+1) (.mk 3 v ks)=true):∃ a,ks=[a]∧CtR.shape p d a=true∧atom a=true∧0≤v∧v<p.arrays.length:=by
  obtain ⟨g1,g2,g3⟩:=shape_succ h
  obtain ⟨_,b,c,e⟩:=fits_len g1
  have g3:=g3 rfl
  match ks,b,g2,g3 with
  | [a],_,g2,g3=>exact ⟨a,rfl,g2 a (by simp),g3,c,by simpa [limit] using e⟩
  | [],b,_,_=>simp [arity] at b
  | _ :: _ :: r,b,_,_=>simp [arity] at b;omega
theorem shape_form {p : Pg} {d : Nat} {k v : Int} {ks : List Ex} (h : CtR.shape p (d + 1) (.mk k v ks) = true) :
    ((k=1∧0≤v∧v<256∨k=2)∧ks=[])∨(∃ a,k=3∧ks=[a]∧CtR.shape p d a=true∧atom a=true)∨(∃ a b,4≤k∧k≤10∧ks=[a,b]∧CtR.shape p d a=true∧CtR.shape p d b=true)
    ∨ (∃ a b c,k=11∧ks=[a,b,c]∧CtR.shape p d a=true∧CtR.shape p d b=true∧CtR.shape p d c=true):=by
  obtain ⟨g1,g2,g3⟩:=shape_succ h
  obtain ⟨_,b,c,e⟩:=fits_len g1
  by_cases k1:k=1∨k=2
  · left
    have:ks.length=0:=by rcases k1 with rfl | rfl<;>simp [arity] at b<;>simpa using b
    refine ⟨?_,List.length_eq_zero_iff.1 this⟩
    rcases k1 with rfl | rfl
    · exact .inl ⟨rfl,c,by simpa [limit] using e⟩
    · exact .inr rfl
  by_cases k3:k=3
  · subst k3
    obtain ⟨a,h1,h2,h3,_⟩:=read_kid h
    exact .inr (.inl ⟨a,rfl,h1,h2,h3⟩)
  by_cases k4:4≤k∧k≤10
  · have:ks.length=2:=by
      have:arity k=2:=by unfold arity;rw [if_neg k1,if_neg k3,if_pos k4]
      omega
    match ks,this with
    | [x,y],_=>exact .inr (.inr (.inl ⟨x,y,k4.1,k4.2,rfl,g2 x (by simp),g2 y (by simp)⟩))
  by_cases k11:k=11
  · subst k11
    have:ks.length=3:=by simp [arity] at b;omega
    match ks,this with
    | [x,y,z],_=>exact .inr (.inr (.inr ⟨x,y,z,rfl,rfl,g2 x (by simp),g2 y (by simp),g2 z (by simp)⟩))
  · have:arity k = -1:=by unfold arity;rw [if_neg k1,if_neg k3,if_neg k4,if_neg k11]
    omega
def Ext (p:Pg) (vs:List Int):Prop:=∃ w,vs=p.vars++w
theorem Ext.more {p:Pg} {vs ws:List Int} (h:Ext p vs) (h2:∃ w,ws=vs++w):Ext p ws:=by
  obtain ⟨a,rfl⟩:=h
  obtain ⟨b,rfl⟩:=h2
  exact ⟨a++b,by simp⟩
theorem Ext.le {p:Pg} {vs:List Int} (h:Ext p vs):p.vars.length≤vs.length:=by
  obtain ⟨a,rfl⟩:=h
  simp
def Sub (a b:Nat):Prop:=∀ β,a.testBit β=true→b.testBit β=true
theorem Sub.refl (a:Nat):Sub a a:=fun _ h=>h
theorem Sub.trans {a b c:Nat} (h:Sub a b) (g:Sub b c):Sub a c:=fun β x=>g β (h β x)
theorem Sub.zero (a:Nat):Sub 0 a:=fun β h=>by simp at h
theorem Sub.or {a b c:Nat}:Sub (a ||| b) c ↔ Sub a c∧Sub b c:=by
  constructor
  · exact fun h=>⟨fun β x=>h β (by simp [x]),fun β x=>h β (by simp [x])⟩
  · rintro ⟨h1,h2⟩ β x
    rw [Nat.testBit_or,Bool.or_eq_true] at x
    exact x.elim (h1 β) (h2 β)
theorem Sub.left (a b:Nat):Sub a (a ||| b):=fun β h=>by simp [h]
theorem Sub.right (a b:Nat):Sub b (a ||| b):=fun β h=>by simp [h]
theorem Sub.l {a b c:Nat} (h:Sub a b):Sub a (b ||| c):=h.trans (Sub.left _ _)
theorem Sub.r {a b c:Nat} (h:Sub a c):Sub a (b ||| c):=h.trans (Sub.right _ _)
theorem none0_e0 {e:Ex} (h:none0 e=true):e=e0:=by
  obtain ⟨k,v,ks⟩:=e
  simp only [none0,Ex.kind,Ex.value,Ex.kids,Bool.and_eq_true,beq_iff_eq,List.isEmpty_iff] at h
  obtain ⟨⟨rfl,rfl⟩,rfl⟩:=h
  rfl
theorem head_parts {p : Pg} {k t : Int} {ix v : Ex} {c : Int} {b e : List St1} (h : headOK p k t ix v c b.length e.length = true) :
    (k=4→e=[]∧ix=e0∧v=e0)∧(k ≠ 4→c=0∧(k ≠ 2→ix=e0))∧(k ≠ 3→k ≠ 4→b=[]∧e=[])∧(k=3∨k=4→t=0):=by
  simp only [headOK,parts,blk,Bool.and_eq_true] at h
  obtain ⟨⟨h1,h2⟩,_⟩:=h
  refine ⟨fun hk=>?_,fun hk=>?_,fun h3 h4=>?_,fun hk=>?_⟩
  · rw [if_pos hk] at h2
    simp only [Bool.and_eq_true,beq_iff_eq] at h2
    exact ⟨List.length_eq_zero_iff.1 (by omega),none0_e0 h2.1.2,none0_e0 h2.2⟩
  · rw [if_neg hk] at h2
    simp only [Bool.and_eq_true,beq_iff_eq,Bool.or_eq_true] at h2
    exact ⟨h2.1,fun h=>none0_e0 (h2.2.resolve_left h)⟩
  · have e1:(k == 3)=false:=by simpa using h3
    have e2:(k == 4)=false:=by simpa using h4
    have:b.length=0∧e.length=0:=by
      cases b<;>cases e<;>simp_all
    exact ⟨List.length_eq_zero_iff.1 this.1,List.length_eq_zero_iff.1 this.2⟩
  · have:(k == 3 || k == 4)=true:=by rcases hk with rfl | rfl<;>rfl
    rw [this] at h1
    simpa using h1
structure In where
  op:Int
  a:Int
  b:Int
  c:Int
  d:Int
structure Cd where
  vars:List Int
  arrays:List Int
  list:List In
structure Mc where
  pc:Nat
  regs:List Int
  mem:Mm
def halt:In:=⟨13,0,0,0,0⟩
def stepM (x:In) (s:Mc):Mc × List Ev :=
  if x.op=1 then (⟨s.pc+1,s.regs.set x.a.toNat x.b,s.mem⟩,[⟨5,s.pc⟩])
  else if x.op=2 then (⟨s.pc+1,s.regs.set x.a.toNat (nth s.mem.vals x.b),s.mem⟩,[⟨5,s.pc⟩])
  else if x.op=3 then (⟨s.pc+1,s.regs,setV s.mem x.a (nth s.regs x.b)⟩,[⟨5,s.pc⟩])
  else if x.op=4 then (⟨s.pc+1,s.regs.set x.a.toNat (nth (arrAt s.mem x.b) (nth s.regs x.c % 4)),s.mem⟩,[⟨5,s.pc⟩,⟨2,x.b * 4+nth s.regs x.c % 4⟩])
  else if x.op=5 then (⟨s.pc+1,s.regs,setA s.mem x.a (nth s.regs x.b % 4) (nth s.regs x.c)⟩,[⟨5,s.pc⟩,⟨3,x.a * 4+nth s.regs x.b % 4⟩])
  else if x.op=6 then (⟨s.pc+1,s.regs.set x.a.toNat (bin x.b (nth s.regs x.c) (nth s.regs x.d)),s.mem⟩,[⟨5,s.pc⟩])
  else if x.op=7 then (⟨s.pc+1,s.regs.set x.a.toNat (if nth s.regs x.b ≠ 0 then nth s.regs x.c else nth s.regs x.d),s.mem⟩,[⟨5,s.pc⟩])
  else if x.op=8 then (⟨x.a.toNat,s.regs,s.mem⟩,[⟨5,s.pc⟩])
  else if x.op=9 then (⟨if nth s.regs x.a=0 then x.b.toNat else s.pc+1,s.regs,s.mem⟩,[⟨5,s.pc⟩])
  else if x.op=10 then (⟨if (nth s.regs x.a+255) % 256 ≠ 0 then x.b.toNat else s.pc+1,s.regs.set x.a.toNat ((nth s.regs x.a+255) % 256),s.mem⟩,[⟨5,s.pc⟩])
  else if x.op=11 then (⟨s.pc+1,s.regs,s.mem⟩,[⟨5,s.pc⟩,⟨4,nth s.regs x.a⟩])
  else if x.op=13 then (s,[⟨5,s.pc⟩])
  else (⟨s.pc+1,s.regs,s.mem⟩,[⟨5,s.pc⟩])
def atC (C:List In) (i:Nat):In:=C.getD i halt
def runM (C : List In) : Nat → Mc → Option (Mm × List Ev)
  | 0,_=>none
  | n + 1, s => if (atC C s.pc).op = 13 then some ((stepM (atC C s.pc) s).1.mem, (stepM (atC C s.pc) s).2)
    else (runM C n (stepM (atC C s.pc) s).1).map fun q=>(q.1,(stepM (atC C s.pc) s).2++q.2)
def stp (X:List Ev):Nat:=X.countP fun e=>e.kind == 5
def seqE (f : Ex → Nat → List In) : Nat → List Ex → List In
  | _,[]=>[]
  | n,e :: r=>f e n++seqE f (n+1) r
def lastE (k v:Int) (n:Nat):In :=
  if k=3 then ⟨4,n,v,n,0⟩ else if k=11 then ⟨7,n,n,(n:Int)+1,(n:Int)+2⟩ else ⟨6,n,k,n,(n:Int)+1⟩
def kE : Nat → Ex → Nat → List In
  | 0,_,_=>[]
  | d+1,.mk k v ks,n=>if k=1 then [⟨1,n,v,0,0⟩] else if k=2 then [⟨2,n,v,0,0⟩] else seqE (kE d) n ks++[lastE k v n]
theorem seqE_snoc (f : Ex → Nat → List In) : ∀ (l : List Ex) (n : Nat) (e : Ex), seqE f n (l ++ [e]) = seqE f n l ++ f e (n + l.length)
  | [],n,e=>by simp [seqE]
  | a :: r,n,e=>by
    simp only [List.cons_append,seqE,seqE_snoc f r,List.append_assoc,List.length_cons]
    rw [show n+1+r.length=n+(r.length+1) by omega]
theorem seqE_len {p : Pg} {d : Nat} : ∀ (l : List Ex) (n : Nat), (∀ e ∈ l, ∀ n, (kE d e n).length = cnt d e) → (seqE (kE d) n l).length = (l.map (cnt d)).sum
  | [],n,_=>rfl
  | a :: r,n,h=>by
    simp only [seqE,List.length_append,List.map_cons,List.sum_cons]
    rw [h a (by simp),seqE_len (p:=p) r (n+1) fun e he=>h e (by simp [he])]
theorem kE_len {p : Pg} : ∀ (d : Nat) (e : Ex), CtR.shape p d e = true → ∀ n, (kE d e n).length = cnt d e
  | 0,_,h,_=>by simp [CtR.shape] at h
  | d+1,.mk k v ks,h,n=>by
    obtain ⟨g1,g2,g3⟩:=shape_succ h
    rcases shape_form h with ⟨hk,rfl⟩ | ⟨a,rfl,rfl,ha,hat⟩ | ⟨a,b,k4,k10,rfl,ha,hb⟩ | ⟨a,b,c,rfl,rfl,ha,hb,hc⟩
    · rcases hk with ⟨rfl,_⟩ | rfl<;>simp [kE,cnt]
    all_goals
      rw [kE,if_neg (by omega),if_neg (by omega),List.length_append,seqE_len (p:=p) _ _ fun e he n=>kE_len d e (g2 e he) n]
      simp only [cnt,List.length_singleton];omega
def lenS : Nat → St1 → Nat
  | 0,_=>0
  | d + 1, .mk k t ix v c b e => if k = 4 then (b.map (lenS d)).sum + 2 else if k = 1 then cnt 5 v + 1 else if k = 5 then cnt 5 v + 2
      else if k=2 then cnt 5 v+cnt 5 ix+1 else cnt 5 v+(b.map (lenS d)).sum+(e.map (lenS d)).sum+2
def lenL (d:Nat) (l:List St1):Nat:=(l.map (lenS d)).sum
def seqS (f : Nat → St1 → List In) (len : St1 → Nat) : Nat → List St1 → List In
  | _,[]=>[]
  | b,s :: r=>f b s++seqS f len (b+len s) r
def cS : Nat → Nat → Nat → St1 → List In
  | 0,_,_,_=>[]
  | d+1,dep,b,.mk k t ix v c bd el =>
    if k=4 then ⟨1,9+dep,c,0,0⟩ :: (seqS (cS d (dep+1)) (lenS d) (b+1) bd++[⟨10,9+dep,(b+1:Nat),0,0⟩])
    else if k=1 then kE 5 v 0++[⟨3,t,0,0,0⟩]
    else if k=5 then kE 5 v 0++[⟨11,0,0,0,0⟩,⟨3,t,0,0,0⟩]
    else if k=2 then kE 5 v 0++(kE 5 ix 1++[⟨5,t,1,0,0⟩])
    else kE 5 v 0 ++ (⟨9, 0, (b + cnt 5 v + lenL d bd + 2 : Nat), 0, 0⟩ :: (seqS (cS d (dep + 1)) (lenS d) (b + cnt 5 v + 1) bd ++
      (⟨8,(b+cnt 5 v+lenL d bd+lenL d el+2:Nat),0,0,0⟩ :: seqS (cS d (dep+1)) (lenS d) (b+cnt 5 v+lenL d bd+2) el)))
def cL (d dep b:Nat) (l:List St1):List In:=seqS (cS d dep) (lenS d) b l
theorem seqS_snoc (f : Nat → St1 → List In) (len : St1 → Nat) : ∀ (l : List St1) (b : Nat) (s : St1), seqS f len b (l ++ [s]) = seqS f len b l ++ f (b + (l.map len).sum) s
  | [],b,s=>by simp [seqS]
  | a :: r,b,s=>by
    simp only [List.cons_append,seqS,seqS_snoc f len r,List.append_assoc,List.map_cons,List.sum_cons,Nat.add_assoc]
theorem seqS_len {f : Nat → St1 → List In} {len : St1 → Nat} : ∀ (l : List St1) (b : Nat), (∀ s ∈ l, ∀ b, (f b s).length = len s) → (seqS f len b l).length = (l.map len).sum
  | [],b,_=>rfl
  | a :: r,b,h=>by
    simp only [seqS,List.length_append,List.map_cons,List.sum_cons]
    rw [h a (by simp),seqS_len r _ fun s hs=>h s (by simp [hs])]
theorem cS_len {p : Pg} : ∀ (d : Nat) (s : St1), stmtOK p d s = true → ∀ dep b, (cS d dep b s).length = lenS d s
  | 0,_,h,_,_=>by simp [stmtOK] at h
  | d+1,.mk k t ix v c bd el,h,dep,b=>by
    obtain ⟨hh,hb,he⟩:=stmtOK_succ h
    have eb:=fun b=>seqS_len (f:=cS d (dep+1)) bd b fun s hs b=>cS_len d s (hb s hs) (dep+1) b
    have ee:=fun b=>seqS_len (f:=cS d (dep+1)) el b fun s hs b=>cS_len d s (he s hs) (dep+1) b
    rcases head_kind hh with ⟨hk,ht0,ht1,hr⟩ | ⟨rfl,ht0,ht1,hri,hai,hr⟩ | ⟨rfl,hr⟩ | ⟨rfl,hc1,hc3⟩
    · have:=kE_len 5 v (right_shape hr).1 0
      rcases hk with rfl | rfl<;>simp [cS,lenS,this]
    · have h1:=kE_len 5 v (right_shape hr).1 0
      have h2:=kE_len 5 ix (right_shape hri).1 1
      simp [cS,lenS,h1,h2];omega
    · have h1:=kE_len 5 v (right_shape hr).1 0
      simp [cS,lenS,h1,eb,ee];omega
    · simp [cS,lenS,eb]
theorem cL_len {p:Pg} {d dep b:Nat} {l:List St1} (h:∀ s ∈ l,stmtOK p d s=true):(cL d dep b l).length=lenL d l:=seqS_len l b fun s hs b=>cS_len d s (h s hs) dep b
def kindsOf (op:Int):List Nat :=
  if op=1 then [1,2,0,0] else if op=2 then [1,3,0,0] else if op=3 then [3,1,0,0] else if op=4 then [1,4,1,0] else if op=5 then [4,1,1,0]
  else if op=6 then [1,5,1,1] else if op=7 then [1,1,1,1] else if op=8 then [6,0,0,0] else if op=9 then [1,6,0,0] else if op=10 then [1,6,0,0]
  else if op=11 then [1,0,0,0] else [0,0,0,0]
def topOf (nv na nl:Nat) (k:Nat):Int:=if k=0 then 0 else if k=1 then 13 else if k=2 then 255 else if k=3 then (nv:Int) - 1 else if k=4 then (na:Int) - 1 else if k=5 then 10 else (nl:Int) - 1
def fOK (nv na nl:Nat) (k:Nat) (n:Int):Bool:=decide ((if k=5 then 4 else 0)≤n) && decide (n≤topOf nv na nl k)
def inOK (nv na nl:Nat) (x:In):Bool:=decide (1≤x.op) && decide (x.op≤13) && fOK nv na nl ((kindsOf x.op).getD 0 0) x.a && fOK nv na nl ((kindsOf x.op).getD 1 0) x.b && fOK nv na nl ((kindsOf x.op).getD 2 0) x.c && fOK nv na nl ((kindsOf x.op).getD 3 0) x.d
def endOK (l:List In):Bool:=(atC l (l.length - 1)).op == 13 || (atC l (l.length - 1)).op == 8
def codeOK (c:Cd):Bool:=headsOK c.vars c.arrays && decide (1≤(c.list.length:Int)) && decide ((c.list.length:Int)≤400) && c.list.all (inOK c.vars.length c.arrays.length c.list.length) && endOK c.list
def runC (c:Cd) (m:Mm):Mm × List Ev × Bool :=
  if codeOK c && memOK c.vars c.arrays m then (match runM c.list 20000 ⟨0,List.replicate 14 0,m⟩ with | some q=>(q.1,q.2,true) | none=>(⟨[],[]⟩,[],false)) else (⟨[],[]⟩,[],false)
theorem seqE_mem {f : Ex → Nat → List In} {x : In} : ∀ (l : List Ex) (n : Nat), x ∈ seqE f n l → ∃ e ∈ l, ∃ j, n ≤ j ∧ j < n + l.length ∧ x ∈ f e j
  | [],n,h=>by simp [seqE] at h
  | a :: r,n,h=>by
    rw [seqE,List.mem_append] at h
    rcases h with h | h
    · exact ⟨a,by simp,n,by simp,by simp,h⟩
    · obtain ⟨e,he,j,h1,h2,h3⟩:=seqE_mem r (n+1) h
      exact ⟨e,by simp [he],j,by omega,by simp;omega,h3⟩
theorem kE_ok {p : Pg} {nl : Nat} : ∀ (d : Nat) (e : Ex) (n : Nat), CtR.shape p d e = true → n + 2 * d ≤ 13 → ∀ x ∈ kE d e n, inOK p.vars.length p.arrays.length nl x = true ∧ x.op < 8
  | 0,_,_,h,_,_,_=>by simp [CtR.shape] at h
  | d+1,.mk k v ks,n,h,hn,x,hx=>by
    obtain ⟨g1,g2,g3⟩:=shape_succ h
    obtain ⟨_,_,hv0,hv1⟩:=fits_len g1
    rcases shape_form h with ⟨hk,rfl⟩ | ⟨a,rfl,rfl,ha,hat⟩ | ⟨a,b',k4,k10,rfl,ha,hb⟩ | ⟨a,b',c,rfl,rfl,ha,hb,hc⟩
    · rcases hk with ⟨rfl,h0,h1⟩ | rfl
      · simp [kE] at hx;subst hx
        simp [inOK,kindsOf,fOK,topOf];omega
      · simp [kE] at hx;subst hx
        simp [limit] at hv1
        simp [inOK,kindsOf,fOK,topOf];omega
    all_goals
      rw [kE,if_neg (by omega),if_neg (by omega),List.mem_append,List.mem_singleton] at hx
      rcases hx with hx | hx
      · obtain ⟨e,he,j,h1,h2,h3⟩:=seqE_mem _ _ hx
        exact kE_ok d e j (g2 e he) (by simp at h2;omega) x h3
    · simp [limit] at hv1
      subst hx
      simp [lastE,inOK,kindsOf,fOK,topOf];omega
    · subst hx
      have n3:k ≠ 3:=by omega
      have n11:k ≠ 11:=by omega
      simp [lastE,n3,n11,inOK,kindsOf,fOK,topOf];omega
    · subst hx
      simp [lastE,inOK,kindsOf,fOK,topOf];omega
theorem seqS_mem {f : Nat → St1 → List In} {len : St1 → Nat} {x : In} : ∀ (l : List St1) (b : Nat), x ∈ seqS f len b l → ∃ s ∈ l, ∃ j, b ≤ j ∧ j + len s ≤ b + (l.map len).sum ∧ x ∈ f j s
  | [],b,h=>by simp [seqS] at h
  | a :: r,b,h=>by
    rw [seqS,List.mem_append] at h
    rcases h with h | h
    · exact ⟨a,by simp,b,by simp,by simp,h⟩
    · obtain ⟨e,he,j,h1,h2,h3⟩:=seqS_mem r _ h
      exact ⟨e,by simp [he],j,by omega,by simp only [List.map_cons,List.sum_cons];omega,h3⟩
def goodI (p:Pg) (nl:Nat) (x:In):Prop:=inOK p.vars.length p.arrays.length nl x=true∧(x.op=10→9≤x.a)
theorem cS_ok {p : Pg} {nl : Nat} : ∀ (d dep : Nat) (s : St1) (b : Nat), d + dep ≤ 5 → stmtOK p d s = true → b + lenS d s < nl → ∀ x ∈ cS d dep b s, goodI p nl x
  | 0,_,_,_,_,h,_,_,_=>by simp [stmtOK] at h
  | d+1,dep,.mk k t ix v c bd el,b,hd,h,hlt,x,hx=>by
    obtain ⟨hh,hb,he⟩:=stmtOK_succ h
    have ge:∀ e n,CtR.shape p 5 e=true→n≤3→x ∈ kE 5 e n→goodI p nl x:=fun e n hs hn hx=>by
      obtain ⟨h1,h2⟩:=kE_ok 5 e n hs (by omega) x hx
      exact ⟨h1,fun h=>by omega⟩
    have gb:∀ l b',(∀ s ∈ l,stmtOK p d s=true)→b' + lenL d l<nl→x ∈ seqS (cS d (dep+1)) (lenS d) b' l→goodI p nl x:=fun l b' hl hlt hx=>by
      obtain ⟨s,hs,j,h1,h2,h3⟩:=seqS_mem l b' hx
      exact cS_ok d (dep+1) s j (by omega) (hl s hs) (by unfold lenL at hlt;omega) x h3
    rcases head_kind hh with ⟨hk,ht0,ht1,hr⟩ | ⟨rfl,ht0,ht1,hri,hai,hr⟩ | ⟨rfl,hr⟩ | ⟨rfl,hc1,hc3⟩
    · rcases hk with rfl | rfl
      · simp [cS] at hx
        rcases hx with hx | hx
        · exact ge v 0 (right_shape hr).1 (by omega) hx
        · subst hx;refine ⟨?_,by simp⟩
          simp [inOK,kindsOf,fOK,topOf];omega
      · simp [cS] at hx
        rcases hx with hx | hx | hx
        · exact ge v 0 (right_shape hr).1 (by omega) hx
        · subst hx;refine ⟨?_,by simp⟩
          simp [inOK,kindsOf,fOK,topOf]
        · subst hx;refine ⟨?_,by simp⟩
          simp [inOK,kindsOf,fOK,topOf];omega
    · simp [cS] at hx
      rcases hx with hx | hx | hx
      · exact ge v 0 (right_shape hr).1 (by omega) hx
      · exact ge ix 1 (right_shape hri).1 (by omega) hx
      · subst hx;refine ⟨?_,by simp⟩
        simp [inOK,kindsOf,fOK,topOf];omega
    · have hlen:lenS (d+1) (.mk 3 t ix v c bd el)=cnt 5 v+lenL d bd+lenL d el+2:=by simp [lenS,lenL]
      rw [hlen] at hlt
      have hx : x ∈ kE 5 v 0 ++ (⟨9, 0, (b + cnt 5 v + lenL d bd + 2 : Nat), 0, 0⟩ :: (seqS (cS d (dep + 1)) (lenS d) (b + cnt 5 v + 1) bd ++
        (⟨8,(b+cnt 5 v+lenL d bd+lenL d el+2:Nat),0,0,0⟩ :: seqS (cS d (dep+1)) (lenS d) (b+cnt 5 v+lenL d bd+2) el))):=hx
      simp only [List.mem_append,List.mem_cons] at hx
      rcases hx with hx | hx | hx | hx | hx
      · exact ge v 0 (right_shape hr).1 (by omega) hx
      · subst hx;refine ⟨?_,by simp⟩
        simp [inOK,kindsOf,fOK,topOf];omega
      · exact gb bd _ hb (by omega) hx
      · subst hx;refine ⟨?_,by simp⟩
        simp [inOK,kindsOf,fOK,topOf];omega
      · exact gb el _ he (by omega) hx
    · have hlen:lenS (d+1) (.mk 4 t ix v c bd el)=lenL d bd+2:=by simp [lenS,lenL]
      rw [hlen] at hlt
      have hx:x ∈ ⟨1,9+dep,c,0,0⟩ :: (seqS (cS d (dep+1)) (lenS d) (b+1) bd++[⟨10,9+dep,(b+1:Nat),0,0⟩]):=hx
      simp only [List.mem_append,List.mem_cons,List.not_mem_nil,or_false] at hx
      rcases hx with hx | hx | hx
      · subst hx;refine ⟨?_,by simp⟩
        simp [inOK,kindsOf,fOK,topOf];omega
      · exact gb bd _ hb (by omega) hx
      · subst hx;refine ⟨?_,fun _=>by show (9:Int)≤9+(dep:Int);omega⟩
        simp [inOK,kindsOf,fOK,topOf];omega
def compL (p:Pg):List In:=cL 5 0 0 p.body++[halt]
def compP (p:Pg):Cd × Bool:=if progOK p=true∧lenL 5 p.body+1≤400 then (⟨p.vars,p.arrays,compL p⟩,true) else (⟨[],[],[]⟩,false)
theorem compL_len {p:Pg} (h:progOK p=true):(compL p).length=lenL 5 p.body+1:=by
  rw [compL,List.length_append,cL_len (body_of h).1];rfl
theorem compL_end {p:Pg} (h:progOK p=true):(compL p)[lenL 5 p.body]? = some halt:=by
  have:=cL_len (dep:=0) (b:=0) (body_of h).1
  rw [compL,List.getElem?_append_right (by omega),this];simp
theorem compL_good {p:Pg} (h:progOK p=true):∀ x ∈ compL p,goodI p (compL p).length x:=by
  intro x hx
  rw [compL_len h]
  rw [compL,List.mem_append,List.mem_singleton] at hx
  rcases hx with hx | rfl
  · obtain ⟨s,hs,j,h1,h2,h3⟩:=seqS_mem p.body 0 hx
    exact cS_ok 5 0 s j (by omega) ((body_of h).1 s hs) (by unfold lenL;omega) x h3
  · exact ⟨by simp [halt,inOK,kindsOf,fOK,topOf],by simp [halt]⟩
theorem comp_valid {p:Pg} (h:progOK p=true) (hl:lenL 5 p.body+1≤400):codeOK ⟨p.vars,p.arrays,compL p⟩=true:=by
  have h1:=compL_len h
  have h2:=compL_end h
  have h3:=compL_good h
  have hh:headsOK p.vars p.arrays=true:=by
    simp only [progOK,Bool.and_eq_true] at h;exact h.1.1
  simp only [codeOK,Bool.and_eq_true,List.all_eq_true,decide_eq_true_eq,hh,true_and]
  refine ⟨⟨⟨by omega,by omega⟩,fun x hx=>(h3 x hx).1⟩,?_⟩
  have:atC (compL p) ((compL p).length - 1)=halt:=by
    rw [h1,atC,List.getD_eq_getElem?_getD,Nat.add_sub_cancel,h2];rfl
  simp only [endOK]
  rw [this];rfl
end Go.Proofs.YtmjkgjkkpaephaaGreat.CtL
namespace Go.Proofs.YtmjkgjkkpaephaaGreat.CtD
open Go Go.CT CtF CtR
open CtL (In Cd kE cL cS seqE lenS lenL)
def inX (x:In):List C:=[I64 x.op,I64 x.a,I64 x.b,I64 x.c,I64 x.d]
def inC (l:List In):List C:=(l.map inX).flatten
theorem inC_len (l:List In):(inC l).length=l.length * 5:=by
  unfold inC
  induction l with
  | nil=>rfl
  | cons a r ih=>simp only [List.map_cons,List.flatten_cons,List.length_append,ih,inX,List.length_cons,List.length_nil];omega
theorem inC_app (a b:List In):inC (a++b)=inC a++inC b:=by simp [inC]
theorem inC_one (x:In):inC [x]=inX x:=by simp [inC]
theorem inC_kf (l:List In):∀ c ∈ inC l,kf c=true:=by
  unfold inC
  intro c hc
  obtain ⟨x,hx,hc⟩:=List.mem_flatten.1 hc
  obtain ⟨e,_,rfl⟩:=List.mem_map.1 hx
  simp only [inX,List.mem_cons,List.not_mem_nil,or_false] at hc
  rcases hc with rfl | rfl | rfl | rfl | rfl<;>rfl
theorem renCs_in (r:Nat→Nat) (l:List In):renCs r (inC l)=inC l:=by
  unfold inC
  induction l with
  | nil=>rfl
  | cons a t ih=>simp only [List.map_cons,List.flatten_cons,inX,List.cons_append,List.nil_append,renCs,renC,ih]
theorem CMs_in {hT hS:Hp} {r:Nat→Option Nat} {fz:List Nat} (l:List In):CMs hT r hS fz (inC l) (inC l)=True:=eq_true (CMs.kf (inC_kf l))
abbrev CsD (k j:Nat) (L:List In) (O:List Int) (a:Int):D := .agg [.msl k 5 0 L.length,.msl j 1 0 O.length,I64 a]
abbrev CsH (L:List In) (O:List Int):List (Option (List C)):=[some (inC L),some (O.map I64)]
abbrev CsR (L:List In) (O:List Int):List (Option (List C)):=[none,none,some (inC L),some (O.map I64)]
theorem RetOb.csA {R : D → List (Option (List C)) → Prop} {L : List In} {O : List Int} {a : Int} {hp : Hp} {ka kb n1 n2 : Nat} {c1 c2 : List C} (hR : R (CsD 2 3 L O a) (CsR L O)) (ha : hp ka = some (some c1)) (hb : hp kb = some (some c2))
    (e1:c1=inC L) (e2:c2=O.map I64) (e3:n1=L.length) (e4:n2=O.length) (nab:ka ≠ kb) (h0:hp 0 ≠ none) (h1:hp 1 ≠ none):RetOb 2 R (.agg [.msl ka 5 0 n1,.msl kb 1 0 n2,I64 a]) hp:=by
  subst e1 e2 e3 e4
  refine RetOb.ofQ (fun j=>if j=2 then some ka else if j=3 then some kb else some j) [] (CsD 2 3 L O a) (CsR L O) ?_ hR (by simp [CsR])
  simp [CsR,CsD,enumL,hOf,DM,DMs,CM,CMs,HpOK,LowOK,upd,ha,hb,nab,CMs_I,CMs_in,h0,h1]
theorem csAdd (L : List In) (O : List Int) (a st op xa xb xc xd : Int) (hL : L.length ≤ 100000) (hO : O.length ≤ 100000) : DC Tryz.prog 113 [CsD 0 1 L O a, DI .i64 st, .agg [I64 op, I64 xa, I64 xb, I64 xc, I64 xd]] (CsH L O)
    (fun r h=>r=CsD 2 3 (L++[⟨op,xa,xb,xc,xd⟩]) (O++[st]) a∧h=CsR (L++[⟨op,xa,xb,xc,xd⟩]) (O++[st])):=by
  have hmx:=mx_eq
  have hcl:=inC_len L
  generalize hR:(fun (r:D) (h:List (Option (List C)))=>r=CsD 2 3 (L++[⟨op,xa,xb,xc,xd⟩]) (O++[st]) a∧h=CsR (L++[⟨op,xa,xb,xc,xd⟩]) (O++[st]))=R
  refine dcZ Tryz.func113 ?_
  simp only [go_sem,hcl]
  iterate 5 ((try (refine drvZ Tryz.func113 ?_;simp only [go_sem,hcl,List.length_map]));((with_reducible and_intros)<;>try exact sd))
  exact RetOb.csA (L:=L++[⟨op,xa,xb,xc,xd⟩]) (O:=O++[st]) (by rw [← hR];exact ⟨rfl,rfl⟩) rfl rfl (by simp [inC_app,inC_one,inX]) (by simp) (by simp) (by simp) (by decide) (by simp [upd,hpL]) (by simp [upd,hpL])
end Go.Proofs.YtmjkgjkkpaephaaGreat.CtD
namespace Go.Proofs.YtmjkgjkkpaephaaGreat.CtD
open Go Go.CT CtF CtR
open CtL (In Cd kE cL cS seqE lenS lenL lastE)
theorem rep_app (n m:Nat) (x:Int):List.replicate n x++List.replicate m x=List.replicate (n+m) x:=by
  rw [List.replicate_append_replicate]
theorem rep_one (n:Nat) (x:Int):List.replicate n x++[x]=List.replicate (n+1) x:=by
  rw [show [x]=List.replicate 1 x from rfl,rep_app]
def CsOK (p:Pg) (a st:Int) (d:Nat):Prop:=∀ (e:Ex) (reg:Nat) (L:List In) (O:List Int),CtR.shape p d e=true→reg+3 * d≤1000→L.length+cnt d e≤90000→O.length+cnt d e≤90000 →
  DC Tryz.prog 195 [CsD 0 1 L O a,DI .i64 st,.agg e.cells,DI .i64 reg] (CsH L O) (fun r h=>r=CsD 2 3 (L++kE d e reg) (O++List.replicate (cnt d e) st) a∧h=CsR (L++kE d e reg) (O++List.replicate (cnt d e) st))
theorem csExpr1 (p:Pg) (a st:Int) (d:Nat) (ih:CsOK p a st d):CsOK p a st (d+1):=by
  have hmx:=mx_eq
  intro e reg L O hsh hreg hL hO
  unfold CsOK at ih
  obtain ⟨k,v,ks⟩:=e
  obtain ⟨g1,g2,g3⟩:=shape_succ hsh
  obtain ⟨hl3,hla,hv0,hv1⟩:=fits_len g1
  have hcn:cnt (d+1) (.mk k v ks)=1+(ks.map (cnt d)).sum:=rfl
  generalize hR:(fun (r:D) (h:List (Option (List C)))=>r=CsD 2 3 (L++kE (d+1) (.mk k v ks) reg) (O++List.replicate (cnt (d+1) (.mk k v ks)) st) a∧h=CsR (L++kE (d+1) (.mk k v ks) reg) (O++List.replicate (cnt (d+1) (.mk k v ks)) st))=R
  by_cases hk:k=1∨k=2
  · have hks:ks=[]:=by
      rcases CtL.shape_form hsh with ⟨_,h⟩ | ⟨a,h,_⟩ | ⟨a,b,h,_⟩ | ⟨a,b,c,h,_⟩
      · exact h
      all_goals omega
    subst hks
    have hcs:=fun op=>csAdd L O a st op reg v 0 0 (by omega) (by omega)
    rcases hk with rfl | rfl
    · have hcs:=hcs 1
      refine dcZ Tryz.func195 ?_
      simp only [go_sem]
      iterate 4 ((try (refine drvZ Tryz.func195 ?_;simp only [go_sem]));((with_reducible and_intros)<;>try exact sd))
      refine XK.callG [0,1] hcs ok113 (hhpG (by simp [HH,upd,hpL,renCs_in,renCs_I])) (hbT ()) (fun d h' ⟨_,e⟩=>by subst e;simp) ?_
      rintro _ _ ⟨rfl,rfl⟩ _
      iterate 3 ((try (refine drvZ Tryz.func195 ?_;simp only [go_sem,renCs_in,renCs_I]));((with_reducible and_intros)<;>try exact sd))
      exact RetOb.csA (by rw [← hR];exact ⟨rfl,rfl⟩) rfl rfl (by simp [CtL.kE]) (by simp [cnt]) (by simp [CtL.kE]) (by simp [cnt]) (by decide) (by simp [upd,hpL,appUp,upsFrom,rkey]) (by simp [upd,hpL,appUp,upsFrom,rkey])
    · have hcs:=hcs 2
      refine dcZ Tryz.func195 ?_
      simp only [go_sem]
      iterate 4 ((try (refine drvZ Tryz.func195 ?_;simp only [go_sem]));((with_reducible and_intros)<;>try exact sd))
      refine XK.callG [0,1] hcs ok113 (hhpG (by simp [HH,upd,hpL,renCs_in,renCs_I])) (hbT ()) (fun d h' ⟨_,e⟩=>by subst e;simp) ?_
      rintro _ _ ⟨rfl,rfl⟩ _
      iterate 3 ((try (refine drvZ Tryz.func195 ?_;simp only [go_sem,renCs_in,renCs_I]));((with_reducible and_intros)<;>try exact sd))
      exact RetOb.csA (by rw [← hR];exact ⟨rfl,rfl⟩) rfl rfl (by simp [CtL.kE]) (by simp [cnt]) (by simp [CtL.kE]) (by simp [cnt]) (by decide) (by simp [upd,hpL,appUp,upsFrom,rkey]) (by simp [upd,hpL,appUp,upsFrom,rkey])
  · have e1:(k == 1)=false:=by simp;omega
    have e2:(k == 2)=false:=by simp;omega
    have f1:(k=1)=False:=eq_false (by omega)
    have f2:(k=2)=False:=eq_false (by omega)
    have hkE:kE (d+1) (.mk k v ks) reg=seqE (kE d) reg ks++[lastE k v reg]:=by
      rw [kE,if_neg (by omega),if_neg (by omega)]
    have hsum:=fun i=>tsum_le (cnt d) ks i
    have hT:∀ i x,ks[i]? = some x→seqE (kE d) reg (ks.take (i+1))=seqE (kE d) reg (ks.take i)++kE d x (reg+i):=fun i x hx=>by
      obtain ⟨hlt,_⟩:=List.getElem?_eq_some_iff.1 hx
      rw [List.take_add_one,hx]
      have:=CtL.seqE_snoc (kE d) (ks.take i) reg x
      rw [List.length_take,Nat.min_eq_left (by omega)] at this
      exact this
    have hTl:∀ i,(seqE (kE d) reg (ks.take i)).length=tsum (cnt d) ks i:=fun i=>CtL.seqE_len (p:=p) (ks.take i) reg fun e he n=>CtL.kE_len d e (g2 e (List.mem_of_mem_take he)) n
    have hts:(ks.map (cnt d)).sum=tsum (cnt d) ks ks.length:=by simp [tsum]
    refine dcZ Tryz.func195 ?_
    simp only [go_sem,e1,e2,f1,f2]
    iterate 4 ((try (refine drvZ Tryz.func195 ?_;simp only [go_sem,e1,e2,f1,f2]));((with_reducible and_intros)<;>try exact sd))
    refine Go.loopQ (fun i : Nat => [(1, DI .i64 st), (3, DI .i64 reg), (4, .c (.ptr 2 0)), (6, .c (.ptr 66 0)), (8, .c (.ptr 130 0)), (9, DI .i64 i)])
      (fun i=>[(0,none),(1,none),(2,some [.msl 5 5 0 (L++seqE (kE d) reg (ks.take i)).length,.msl 6 1 0 (O++List.replicate (tsum (cnt d) ks i) st).length,I64 a]),(66,some (Ex.cells (.mk k v ks))),(130,some [.v (.slice none 0 0),.v (.slice none 0 0),I64 0]),
        (5,some (inC (L++seqE (kE d) reg (ks.take i)))),(6,some ((O++List.replicate (tsum (cnt d) ks i) st).map I64))])
      4096 (fun i=>i≤ks.length) (fun i=>ks.length - i) ?_ 0 (fun j=>if j=5 then some 0 else if j=6 then some 1 else some j) [] _ (Nat.zero_le _) ?_
    · intro i hi again
      rcases Nat.lt_or_ge i ks.length with hlt | hge
      · obtain ⟨⟨k',v',ks'⟩,hx⟩:∃ x,ks[i]? = some x:=⟨ks[i],by simp [hlt]⟩
        have hsx:=g2 _ (List.mem_of_getElem? hx)
        have hti:=tsum_succ (cnt d) ks i _ hx
        have hs1:=hsum (i+1)
        have hlx:=CtL.kE_len d _ hsx (reg+i)
        have hic:=ih (.mk k' v' ks') (reg+i) (L++seqE (kE d) reg (ks.take i)) (O++List.replicate (tsum (cnt d) ks i) st) hsx (by omega) (by rw [List.length_append,hTl];omega) (by rw [List.length_append,List.length_replicate];omega)
        have hTi:=hT i _ hx
        have hLl:(L++seqE (kE d) reg (ks.take i)).length≤90000:=by rw [List.length_append,hTl];omega
        have hOl:(O++List.replicate (tsum (cnt d) ks i) st).length≤90000:=by rw [List.length_append,List.length_replicate];omega
        rw [List.append_assoc,List.append_assoc,rep_app,← hTi,← hti] at hic
        generalize L++seqE (kE d) reg (ks.take i)=L1 at *
        generalize O++List.replicate (tsum (cnt d) ks i) st=O1 at *
        refine drvL Tryz.func195 ?_
        simp only [go_sem,hx,hlt]
        iterate 3 ((try (refine drvZ Tryz.func195 ?_;simp only [go_sem,hx,hlt]));((with_reducible and_intros)<;>try exact sd))
        refine XK.callG [5,6] hic ok195 (hhpG (by simp [HH,upd,hOf,hpL,renCs_in,renCs_I])) (hbT ()) (fun d h' ⟨_,e⟩=>by subst e;simp) ?_ (fun _=>⟨by kernel_rfl,_,_,⟨rfl,rfl⟩,by simp⟩)
        rintro _ _ ⟨rfl,rfl⟩ _
        iterate 4 ((try (refine drvZ Tryz.func195 ?_;simp only [go_sem,renCs_in,renCs_I]));((with_reducible and_intros)<;>try exact sd))
        refine again (i+1) (fun j=>if j=5 then some 5056 else if j=6 then some 5057 else some j) [] _ hlt (by omega) ?_
        simp only [go_sem,TmOK,DM,DMs,CM,CMs,forall_eq,exists_eq_left,Mq,HpOK,LowOK]
        simp [-List.map_append,CMs_in,CMs_I]
      · have hn2:¬ i<ks.length:=by omega
        obtain rfl:i=ks.length:=by omega
        have hTk:=hTl ks.length
        clear ih hT again
        rw [List.take_length] at hTk
        simp only [List.take_length]
        have hL2:(L++seqE (kE d) reg ks).length≤90000:=by rw [List.length_append];omega
        have hO2:(O++List.replicate (tsum (cnt d) ks ks.length) st).length≤90000:=by rw [List.length_append,List.length_replicate];omega
        have hrL:L++kE (d+1) (.mk k v ks) reg=(L++seqE (kE d) reg ks)++[lastE k v reg]:=by rw [hkE,List.append_assoc]
        have hrO:O++List.replicate (cnt (d+1) (.mk k v ks)) st=(O++List.replicate (tsum (cnt d) ks ks.length) st)++[st]:=by rw [hcn,hts,Nat.add_comm,← rep_one,List.append_assoc]
        rw [hrL,hrO] at hR
        generalize L++seqE (kE d) reg ks=L2 at *
        generalize O++List.replicate (tsum (cnt d) ks ks.length) st=O2 at *
        clear hrL hrO
        by_cases k3:k=3
        · subst k3
          have hcs:=csAdd L2 O2 a st 4 reg v reg 0 (by omega) (by omega)
          refine drvL Tryz.func195 ?_
          simp only [go_sem,hn2]
          iterate 5 ((try (refine drvZ Tryz.func195 ?_;simp only [go_sem,hn2]));((with_reducible and_intros)<;>try exact sd))
          refine XK.callG [5,6] hcs ok113 (hhpG (by simp [HH,upd,hOf,hpL,renCs_in,renCs_I])) (hbT ()) (fun d h' ⟨_,e⟩=>by subst e;simp) ?_
          rintro _ _ ⟨rfl,rfl⟩ _
          iterate 3 ((try (refine drvZ Tryz.func195 ?_;simp only [go_sem,renCs_in,renCs_I]));((with_reducible and_intros)<;>try exact sd))
          exact RetOb.csA (by rw [← hR];exact ⟨rfl,rfl⟩) rfl rfl (by simp [lastE,Int.reduceEq]) rfl (by simp [lastE,Int.reduceEq]) rfl (by decide) (by simp [upd,hpL,hOf,appUp,upsFrom,rkey]) (by simp [upd,hpL,hOf,appUp,upsFrom,rkey])
        by_cases k11:k=11
        · subst k11
          have hcs:=csAdd L2 O2 a st 7 reg reg ((reg:Int)+1) ((reg:Int)+2) (by omega) (by omega)
          refine drvL Tryz.func195 ?_
          simp only [go_sem,hn2]
          iterate 5 ((try (refine drvZ Tryz.func195 ?_;simp only [go_sem,hn2]));((with_reducible and_intros)<;>try exact sd))
          refine XK.callG [5,6] hcs ok113 (hhpG (by simp [HH,upd,hOf,hpL,renCs_in,renCs_I])) (hbT ()) (fun d h' ⟨_,e⟩=>by subst e;simp) ?_
          rintro _ _ ⟨rfl,rfl⟩ _
          iterate 3 ((try (refine drvZ Tryz.func195 ?_;simp only [go_sem,renCs_in,renCs_I]));((with_reducible and_intros)<;>try exact sd))
          exact RetOb.csA (by rw [← hR];exact ⟨rfl,rfl⟩) rfl rfl (by simp [lastE,Int.reduceEq]) rfl (by simp [lastE,Int.reduceEq]) rfl (by decide) (by simp [upd,hpL,hOf,appUp,upsFrom,rkey]) (by simp [upd,hpL,hOf,appUp,upsFrom,rkey])
        · have e3:(k == 3)=false:=by simp;omega
          have e11:(k == 11)=false:=by simp;omega
          have f3:(k=3)=False:=eq_false (by omega)
          have f11:(k=11)=False:=eq_false (by omega)
          have hcs:=csAdd L2 O2 a st 6 reg k reg ((reg:Int)+1) (by omega) (by omega)
          refine drvL Tryz.func195 ?_
          simp only [go_sem,hn2]
          iterate 5 ((try (refine drvZ Tryz.func195 ?_;simp only [go_sem,hn2,e3,e11,f3,f11]));((with_reducible and_intros)<;>try exact sd))
          refine XK.callG [5,6] hcs ok113 (hhpG (by simp [HH,upd,hOf,hpL,renCs_in,renCs_I])) (hbT ()) (fun d h' ⟨_,e⟩=>by subst e;simp) ?_
          rintro _ _ ⟨rfl,rfl⟩ _
          iterate 3 ((try (refine drvZ Tryz.func195 ?_;simp only [go_sem,renCs_in,renCs_I]));((with_reducible and_intros)<;>try exact sd))
          exact RetOb.csA (by rw [← hR];exact ⟨rfl,rfl⟩) rfl rfl (by simp [lastE,k3,k11]) rfl (by simp [lastE,k3,k11]) rfl (by decide) (by simp [upd,hpL,hOf,appUp,upsFrom,rkey]) (by simp [upd,hpL,hOf,appUp,upsFrom,rkey])
    · simp only [go_sem,TmOK,DM,DMs,CM,CMs,forall_eq,exists_eq_left,Mq,HpOK,LowOK]
      simp [CtL.seqE,tsum,CMs_in,CMs_I]
theorem csExpr (p : Pg) (a st : Int) : ∀ d, CsOK p a st d
  | 0=>fun e reg L O h=>by simp [CtR.shape] at h
  | d+1=>csExpr1 p a st d (csExpr p a st d)
end Go.Proofs.YtmjkgjkkpaephaaGreat.CtD
