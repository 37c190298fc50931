/- Contracts of functions of the program, one behind the other, as plain data: what each call returns and which blocks it leaves. -/
import Derived.Test.YtddanjifhdaebaaIFacts
import Derived.Test.YtddanjifhdaebaaIAi
import Derived.Test.YtddanjifhdaebaaIAl
import Derived.Test.YtddanjifhdaebaaIAk
set_option linter.unusedVariables false
set_option linter.unusedSimpArgs false
set_option linter.unusedSectionVars false
set_option maxHeartbeats 16000000
set_option maxRecDepth 100000
namespace Go.Proofs.Ytddanjifhdaebaa.CtD
open Go Go.CT CtF CtR
variable [Yn]
def rowsB (w:Nat) (S:List Nat):List (List C):=S.map fun N=>boolsC (bl w N)
theorem rowsB_len (w:Nat) (S:List Nat):(rowsB w S).length=S.length:=by simp [rowsB]
theorem rowsB_kf (w:Nat) (S:List Nat):∀ x ∈ rowsB w S,∀ c ∈ x,kf c=true:=fun x hx c hc=>by
  obtain ⟨N,_,rfl⟩:=List.mem_map.1 hx;exact boolsC_kf _ c hc
theorem fam_row {hp:Hp} {b w i:Nat} {S:List Nat} {row:List C} (hS:S.length≤32) (h:(rowsB w S)[i]? = some row):fam hp b (rowsB w S) (b+i)=some (some row):=by
  have:=(List.getElem?_eq_some_iff.1 h).1
  rw [rowsB_len] at this
  rw [fam_at (by omega),h];rfl
theorem SubH.rows {m : Nat} {r : Nat → Option Nat} {hl : List (Nat × Option (List C))} {hp : Hp} {b b' w : Nat} {S : List Nat} (hS : S.length ≤ 32) (hr : ∀ i, i < S.length → r (b + i) = some (b' + i))
    (hok:HpOK (fam (hOf hl) b (rowsB w S)) r (fam hp b' (rowsB w S)) [] hl) (hlow:LowOK r (fam (hOf hl) b (rowsB w S)) m) (hnd:((hl.filterMap fun p=>p.2.map fun _=>p.1).filterMap r).Nodup)
    (hdis:∀ p ∈ hl,∀ j,r p.1=some j→j<b'∨b' + 32≤j):SubH m r [] (fam (hOf hl) b (rowsB w S)) (fam hp b' (rowsB w S)):=by
  have hl0:=rowsB_len w S
  refine SubH.fam (fun n=>b' + n) (fun i hi=>hr i (by omega)) (fun i j hi hj h=>by omega) (fun i hi=>by simp) (fun i row hi=>fam_row hS hi) (rowsB_kf w S) hok hlow hnd ?_
  intro k j cs hm hj i hi e
  have:=hdis _ hm j hj
  omega
end Go.Proofs.Ytddanjifhdaebaa.CtD
namespace Go.Proofs.Ytddanjifhdaebaa.CtR
variable [Go.CT.Yn]
open Go Go.CT CtF
end Go.Proofs.Ytddanjifhdaebaa.CtR
namespace Go.Proofs.Ytddanjifhdaebaa.CtR
open Go Go.CT CtF
variable [Yn]
theorem fdif_iff : ∀ (xs ys : List Ev) (n : Int), 0 ≤ n → (fdif xs ys n = -1 ↔ xs = ys)
  | [],[],n,_=>by simp [fdif]
  | [],b :: r,n,h=>by simp [fdif];omega
  | a :: r,[],n,h=>by simp [fdif];omega
  | a :: r,b :: s,n,h=>by
    obtain ⟨ak,av⟩:=a
    obtain ⟨bk,bv⟩:=b
    simp only [fdif]
    split
    · rename_i he
      obtain ⟨rfl,rfl⟩:=he
      rw [fdif_iff r s (n+1) (by omega)];simp
    · rename_i he
      constructor
      · intro h1;omega
      · intro h1;simp at h1;exact absurd ⟨h1.1.1,h1.1.2⟩ he
theorem firstDifferenceS (xs ys:List Ev) (hl:xs.length≤mx) (hlen:xs.length=ys.length):DC Try.prog 113 [.c (trD xs),.c (trD ys)] [] (fun r h=>r=DI .i64 (fdif xs ys 0)∧h=[]):=by
  have hmx:=mx_eq
  have ret:∀ (n:Int) (hp:Hp),n=fdif xs ys 0→RetOb 0 (fun r h=>r=DI .i64 (fdif xs ys 0)∧h=[]) (DI .i64 n) hp:=fun n hp h=>RetOb.plain (d:=DI .i64 _) ⟨by rw [h],rfl⟩ rfl
  generalize hR:(fun (r:D) (h:List (Option (List C)))=>r=DI .i64 (fdif xs ys 0)∧h=[])=R at ret ⊢
  clear hR
  refine dcZ Try.func113 ?_
  simp only [go_sem,trD]
  ((try (refine drvZ Try.func113 ?_;simp only [go_sem,trD]));((with_reducible and_intros)<;>try exact sd))
  refine Go.loopQ (fun i:Nat=>[(0,.c (trD xs)),(1,.c (trD ys)),(5,DI .i64 i)]) (fun _=>[]) 1024 (fun i=>i≤xs.length∧fdif (xs.drop i) (ys.drop i) i=fdif xs ys 0) (fun i=>xs.length - i) ?_ 0 some [] _ ⟨Nat.zero_le _,rfl⟩ ?_
  · intro i hi again
    have hI:=hi.2
    rcases Nat.lt_or_ge i xs.length with hlt | hge
    · have hlt2:i<ys.length:=by omega
      obtain ⟨x,hxx⟩:∃ x,xs[i]? = some x:=⟨xs[i],by simp [hlt]⟩
      obtain ⟨y,hyy⟩:∃ y,ys[i]? = some y:=⟨ys[i],by simp [hlt2]⟩
      rw [List.drop_eq_getElem_cons hlt,List.drop_eq_getElem_cons hlt2,(List.getElem?_eq_some_iff.1 hxx).2,(List.getElem?_eq_some_iff.1 hyy).2] at hI
      obtain ⟨xk,xv⟩:=x
      obtain ⟨yk,yv⟩:=y
      simp only [fdif] at hI
      by_cases he:xk=yk∧xv=yv
      · obtain ⟨rfl,rfl⟩:=he
        rw [if_pos ⟨rfl,rfl⟩] at hI
        refine drvL Try.func113 ?_
        simp only [go_sem,trD,hlt,hlt2]
        iterate 4 ((try (refine drvZ Try.func113 ?_;simp only [go_sem,trD,hlt,hlt2,hxx,hyy,Ev.cells]));((with_reducible and_intros)<;>try exact sd))
        refine again (i+1) some [] _ ⟨hlt,by rw [← hI];rfl⟩ (by omega) ?_
        simp only [go_sem,TmOK,DM,DMs,CM,CMs,forall_eq,exists_eq_left,Mq,HpOK,LowOK,trD]
        try simp
      · rw [if_neg he] at hI
        have hd:(decide (xk=yk) && decide (xv=yv))=false:=by
          cases h1:decide (xk=yk) with
          | false=>rfl
          | true =>
            cases h2:decide (xv=yv) with
            | false=>rfl
            | true=>exact absurd ⟨of_decide_eq_true h1,of_decide_eq_true h2⟩ he
        refine drvL Try.func113 ?_
        simp only [go_sem,trD,hlt,hlt2]
        iterate 4 ((try (refine drvZ Try.func113 ?_;simp only [go_sem,trD,hlt,hlt2,hxx,hyy,Ev.cells,hd]));((with_reducible and_intros)<;>try exact sd))
        exact ret _ _ hI
    · have hn:¬ i<xs.length:=by omega
      have hn2:¬ xs.length<ys.length:=by omega
      have hn3:¬ ys.length<xs.length:=by omega
      refine drvL Try.func113 ?_
      simp only [go_sem,trD,hn,hn2,hn3]
      iterate 3 ((try (refine drvZ Try.func113 ?_;simp only [go_sem,trD,hn,hn2,hn3]));((with_reducible and_intros)<;>try exact sd))
      have e1:xs.drop i=[]:=List.drop_of_length_le (by omega)
      have e2:ys.drop i=[]:=List.drop_of_length_le (by omega)
      exact ret _ _ (by rw [← hI,e1,e2];rfl)
  · simp only [go_sem,TmOK,DM,DMs,CM,CMs,forall_eq,exists_eq_left,Mq,HpOK,LowOK,trD]
    try simp
theorem traceSameS (xs ys:List Ev) (hl:xs.length≤mx):DC Try.prog 73 [.c (trD xs),.c (trD ys)] [] (fun r h=>r=DB (trSame xs ys)∧h=[]):=by
  have hmx:=mx_eq
  have ret:∀ (b:Bool) (hp:Hp),b=trSame xs ys→RetOb 0 (fun r h=>r=DB (trSame xs ys)∧h=[]) (DB b) hp:=fun b hp h=>RetOb.plain (d:=DB _) ⟨by rw [h],rfl⟩ rfl
  generalize hR:(fun (r:D) (h:List (Option (List C)))=>r=DB (trSame xs ys)∧h=[])=R at ret ⊢
  clear hR
  by_cases hlen:xs.length=ys.length
  · have hfd:=firstDifferenceS xs ys hl hlen
    have hfi:=fdif_iff xs ys 0 (by omega)
    generalize fdif xs ys 0=n at *
    have he:((xs.length:Int)=(ys.length:Int))=True:=eq_true (by omega)
    have hb:((xs.length:Int) == (ys.length:Int))=true:=by simp [hlen]
    refine dcZ Try.func73 ?_
    simp only [go_sem,trD,he,hb]
    iterate 3 ((try (refine drvZ Try.func73 ?_;simp only [go_sem,trD,he,hb]));((with_reducible and_intros)<;>try exact sd);(try first | refine XK.p hfd ok113 ?_ | refine XK.gp hfd ok113 ?_))
    refine ret _ _ ?_
    rw [Bool.eq_iff_iff,trSame_iff,← hfi]
    simp
  · have he:((xs.length:Int)=(ys.length:Int))=False:=eq_false (by omega)
    have hb:((xs.length:Int) == (ys.length:Int))=false:=by simp;omega
    refine dcZ Try.func73 ?_
    simp only [go_sem,trD,he,hb]
    iterate 3 ((try (refine drvZ Try.func73 ?_;simp only [go_sem,trD,he,hb]));((with_reducible and_intros)<;>try exact sd);(try first | refine XK.gs (DI .i64 0) ?_))
    refine ret _ _ ?_
    cases h:trSame xs ys with
    | false=>rfl
    | true=>exact absurd (by rw [(trSame_iff xs ys).1 h]) hlen
end Go.Proofs.Ytddanjifhdaebaa.CtR
namespace Go.Proofs.Ytddanjifhdaebaa.CtR
variable [Go.CT.Yn]
open Go Go.CT CtF
end Go.Proofs.Ytddanjifhdaebaa.CtR
namespace Go.Proofs.Ytddanjifhdaebaa.CtD
open Go Go.CT CtF CtR
variable [Yn]
def trsC (l:List (List Ev)):List C:=l.map trD
theorem trsC_len (l:List (List Ev)):(trsC l).length=l.length:=by simp [trsC]
theorem trsC_kf (l:List (List Ev)):∀ c ∈ trsC l,kf c=true:=fun c hc=>by
  obtain ⟨t,_,rfl⟩:=List.mem_map.1 hc;rfl
def ko (l:List Nat):List Int:=l.map (fun k:Nat=>(k:Int))
theorem trsC_snoc (l:List (List Ev)) (t:List Ev):trsC (l++[t])=trsC l++[trD t]:=by simp [trsC]
end Go.Proofs.Ytddanjifhdaebaa.CtD
namespace Go.Proofs.Ytddanjifhdaebaa.CtL
variable [Go.CT.Yn]
open Go Go.CT CtF CtR
def e0:Ex := .mk 0 0 []
open Go Go.CT CtF CtR
open Go Go.CT CtF CtR
open Go Go.CT CtF CtR
def Ext (p:Pg) (vs:List Int):Prop:=∃ w,vs=p.vars++w
theorem Ext.more {p:Pg} {vs ws:List Int} (h:Ext p vs) (h2:∃ w,ws=vs++w):Ext p ws:=by
  obtain ⟨a,rfl⟩:=h
  obtain ⟨b,rfl⟩:=h2
  exact ⟨a++b,by simp⟩
theorem Ext.le {p:Pg} {vs:List Int} (h:Ext p vs):p.vars.length≤vs.length:=by
  obtain ⟨a,rfl⟩:=h
  simp
open Go Go.CT CtF CtR
open Go Go.CT CtF CtR
def Sub (a b:Nat):Prop:=∀ β,a.testBit β=true→b.testBit β=true
theorem Sub.refl (a:Nat):Sub a a:=fun _ h=>h
theorem Sub.trans {a b c:Nat} (h:Sub a b) (g:Sub b c):Sub a c:=fun β x=>g β (h β x)
theorem Sub.zero (a:Nat):Sub 0 a:=fun β h=>by simp at h
theorem Sub.or {a b c:Nat}:Sub (a ||| b) c ↔ Sub a c∧Sub b c:=by
  constructor
  · exact fun h=>⟨fun β x=>h β (by simp [x]),fun β x=>h β (by simp [x])⟩
  · rintro ⟨h1,h2⟩ β x
    rw [Nat.testBit_or,Bool.or_eq_true] at x
    exact x.elim (h1 β) (h2 β)
theorem Sub.left (a b:Nat):Sub a (a ||| b):=fun β h=>by simp [h]
theorem Sub.right (a b:Nat):Sub b (a ||| b):=fun β h=>by simp [h]
theorem Sub.l {a b c:Nat} (h:Sub a b):Sub a (b ||| c):=h.trans (Sub.left _ _)
theorem Sub.r {a b c:Nat} (h:Sub a c):Sub a (b ||| c):=h.trans (Sub.right _ _)
open Go Go.CT CtF CtR
open Go Go.CT CtF CtR
open Go Go.CT CtF CtR
open Go Go.CT CtF CtR
open Go Go.CT CtF CtR
open Go Go.CT CtF CtR
structure In where
  op:Int
  a:Int
  b:Int
  c:Int
  d:Int
structure Cd where
  vars:List Int
  arrays:List Int
  list:List In
structure Mc where
  pc:Nat
  regs:List Int
  mem:Mm
def halt:In:=⟨13,0,0,0,0⟩
def stepM (x:In) (s:Mc):Mc × List Ev :=
  if x.op=1 then (⟨s.pc+1,s.regs.set x.a.toNat x.b,s.mem⟩,[⟨5,s.pc⟩])
  else if x.op=2 then (⟨s.pc+1,s.regs.set x.a.toNat (nth s.mem.vals x.b),s.mem⟩,[⟨5,s.pc⟩])
  else if x.op=3 then (⟨s.pc+1,s.regs,setV s.mem x.a (nth s.regs x.b)⟩,[⟨5,s.pc⟩])
  else if x.op=4 then (⟨s.pc+1,s.regs.set x.a.toNat (nth (arrAt s.mem x.b) (nth s.regs x.c % 4)),s.mem⟩,[⟨5,s.pc⟩,⟨2,x.b * 4+nth s.regs x.c % 4⟩])
  else if x.op=5 then (⟨s.pc+1,s.regs,setA s.mem x.a (nth s.regs x.b % 4) (nth s.regs x.c)⟩,[⟨5,s.pc⟩,⟨3,x.a * 4+nth s.regs x.b % 4⟩])
  else if x.op=6 then (⟨s.pc+1,s.regs.set x.a.toNat (bin x.b (nth s.regs x.c) (nth s.regs x.d)),s.mem⟩,[⟨5,s.pc⟩])
  else if x.op=7 then (⟨s.pc+1,s.regs.set x.a.toNat (if nth s.regs x.b ≠ 0 then nth s.regs x.c else nth s.regs x.d),s.mem⟩,[⟨5,s.pc⟩])
  else if x.op=8 then (⟨x.a.toNat,s.regs,s.mem⟩,[⟨5,s.pc⟩])
  else if x.op=9 then (⟨if nth s.regs x.a=0 then x.b.toNat else s.pc+1,s.regs,s.mem⟩,[⟨5,s.pc⟩])
  else if x.op=10 then (⟨if (nth s.regs x.a+255) % 256 ≠ 0 then x.b.toNat else s.pc+1,s.regs.set x.a.toNat ((nth s.regs x.a+255) % 256),s.mem⟩,[⟨5,s.pc⟩])
  else if x.op=11 then (⟨s.pc+1,s.regs,s.mem⟩,[⟨5,s.pc⟩,⟨4,nth s.regs x.a⟩])
  else if x.op=13 then (s,[⟨5,s.pc⟩])
  else (⟨s.pc+1,s.regs,s.mem⟩,[⟨5,s.pc⟩])
def atC (C:List In) (i:Nat):In:=C.getD i halt
def runM (C : List In) : Nat → Mc → Option (Mm × List Ev)
  | 0,_=>none
  | n + 1, s => if (atC C s.pc).op = 13 then some ((stepM (atC C s.pc) s).1.mem, (stepM (atC C s.pc) s).2)
    else (runM C n (stepM (atC C s.pc) s).1).map fun q=>(q.1,(stepM (atC C s.pc) s).2++q.2)
def stp (X:List Ev):Nat:=X.countP fun e=>e.kind == 5
open Go Go.CT CtF CtR
open Go Go.CT CtF CtR
open Go Go.CT CtF CtR
def kindsOf (op:Int):List Nat :=
  if op=1 then [1,2,0,0] else if op=2 then [1,3,0,0] else if op=3 then [3,1,0,0] else if op=4 then [1,4,1,0] else if op=5 then [4,1,1,0]
  else if op=6 then [1,5,1,1] else if op=7 then [1,1,1,1] else if op=8 then [6,0,0,0] else if op=9 then [1,6,0,0] else if op=10 then [1,6,0,0]
  else if op=11 then [1,0,0,0] else [0,0,0,0]
def topOf (nv na nl:Nat) (k:Nat):Int:=if k=0 then 0 else if k=1 then 13 else if k=2 then 255 else if k=3 then (nv:Int) - 1 else if k=4 then (na:Int) - 1 else if k=5 then 10 else (nl:Int) - 1
def fOK (nv na nl:Nat) (k:Nat) (n:Int):Bool:=decide ((if k=5 then 4 else 0)≤n) && decide (n≤topOf nv na nl k)
def inOK (nv na nl:Nat) (x:In):Bool:=decide (1≤x.op) && decide (x.op≤13) && fOK nv na nl ((kindsOf x.op).getD 0 0) x.a && fOK nv na nl ((kindsOf x.op).getD 1 0) x.b && fOK nv na nl ((kindsOf x.op).getD 2 0) x.c && fOK nv na nl ((kindsOf x.op).getD 3 0) x.d
def endOK (l:List In):Bool:=(atC l (l.length - 1)).op == 13 || (atC l (l.length - 1)).op == 8
def codeOK (c:Cd):Bool:=headsOK c.vars c.arrays && decide (1≤(c.list.length:Int)) && decide ((c.list.length:Int)≤400) && c.list.all (inOK c.vars.length c.arrays.length c.list.length) && endOK c.list
def runC (c:Cd) (m:Mm):Mm × List Ev × Bool :=
  if codeOK c && memOK c.vars c.arrays m then (match runM c.list 20000 ⟨0,List.replicate 14 0,m⟩ with | some q=>(q.1,q.2,true) | none=>(⟨[],[]⟩,[],false)) else (⟨[],[]⟩,[],false)
end Go.Proofs.Ytddanjifhdaebaa.CtL
namespace Go.Proofs.Ytddanjifhdaebaa.CtD
open Go Go.CT CtF CtR
variable [Yn]
open CtL (In Cd)
def inX (x:In):List C:=[I64 x.op,I64 x.a,I64 x.b,I64 x.c,I64 x.d]
open CtL (In Cd)
open CtL (In Cd)
open CtL (In Cd)
open CtL (In Cd halt)
def cdC (c:Cd):List C:=[isI c.vars,isI c.arrays,.isl 5 (c.list.map inX)]
open CtL (In Cd kindsOf topOf fOK inOK endOK codeOK)
def ltr (k:Nat):UInt8:=if k=0 then 45 else if k=1 then 114 else if k=2 then 110 else if k=3 then 118 else if k=4 then 97 else if k=5 then 111 else 105
def shp (op:Int):ByteArray:=⟨#[ltr ((kindsOf op).getD 0 0),ltr ((kindsOf op).getD 1 0),ltr ((kindsOf op).getD 2 0),ltr ((kindsOf op).getD 3 0)]⟩
theorem shapeI (op:Int) (h:1≤op∧op≤13):DC Try.prog 231 [DI .i64 op] [] (fun r h=>r=DS (shp op)∧h=[]):=by
  have hmx:=mx_eq
  have hw:=CtR.within op 1 13
  have key:op=1∨op=2∨op=3∨op=4∨op=5∨op=6∨op=7∨op=8∨op=9∨op=10∨op=11∨op=12∨op=13:=by omega
  rcases key with rfl | rfl | rfl | rfl | rfl | rfl | rfl | rfl | rfl | rfl | rfl | rfl | rfl
  all_goals
    refine dcZ Try.func231 ?_
    simp only [go_sem]
    iterate 4 ((try (refine drvZ Try.func231 ?_;simp only [go_sem,Int.reduceLE,Int.reduceSub,Int.reduceToNat]));((with_reducible and_intros)<;>try exact sd);(try first | refine XK.p hw ok119 ?_ | refine XK.gp hw ok119 ?_))
    exact RetOb.plain (d:=DS _) ⟨rfl,rfl⟩ rfl
theorem fieldOkT (c : Cd) (h1 : c.vars.length ≤ mx) (h2 : c.arrays.length ≤ mx) (h3 : c.list.length ≤ mx) (k : Nat) (hk : k ≤ 6) (n : Int) (h : fOK c.vars.length c.arrays.length c.list.length k n = true) :
    DC Try.prog 233 [.agg (cdC c),.c (.v (.int .u8 (ltr k).toNat)),DI .i64 n] [] (fun r h=>r=DB true∧h=[]):=by
  have hmx:=mx_eq
  have hw:=fun hi=>CtR.within n 0 hi
  have hw4:=CtR.within n 4 10
  obtain ⟨vs,ar,ls⟩:=c
  simp only at h1 h2 h3 h
  simp only [fOK,topOf,Bool.and_eq_true,decide_eq_true_eq] at h
  have key:k=0∨k=1∨k=2∨k=3∨k=4∨k=5∨k=6:=by omega
  unfold cdC
  rcases key with rfl | rfl | rfl | rfl | rfl | rfl | rfl
  · rw [show (((ltr 0).toNat:Nat):Int)=45 from rfl]
    obtain rfl:n=0:=by simp at h;omega
    refine dcZ Try.func233 ?_
    simp only [go_sem]
    iterate 9 ((try (refine drvZ Try.func233 ?_;simp only [go_sem]));((with_reducible and_intros)<;>try exact sd))
    exact RetOb.plain (d:=DB true) ⟨rfl,rfl⟩ rfl
  · rw [show (((ltr 1).toNat:Nat):Int)=114 from rfl]
    have g1:decide (0≤n)=true:=by simp at h ⊢;omega
    have g2:decide (n≤13)=true:=by simp at h ⊢;omega
    have hw:=hw (13)
    rw [g1,g2] at hw
    refine dcZ Try.func233 ?_
    simp only [go_sem]
    iterate 10 ((try (refine drvZ Try.func233 ?_;simp only [go_sem,Int.reduceLE,List.length_map]));((with_reducible and_intros)<;>try exact sd);(try first | refine XK.p hw ok119 ?_ | refine XK.gp hw ok119 ?_))
    exact RetOb.plain (d:=DB true) ⟨rfl,rfl⟩ rfl
  · rw [show (((ltr 2).toNat:Nat):Int)=110 from rfl]
    have g1:decide (0≤n)=true:=by simp at h ⊢;omega
    have g2:decide (n≤255)=true:=by simp at h ⊢;omega
    have hw:=hw (255)
    rw [g1,g2] at hw
    refine dcZ Try.func233 ?_
    simp only [go_sem]
    iterate 10 ((try (refine drvZ Try.func233 ?_;simp only [go_sem,Int.reduceLE,List.length_map]));((with_reducible and_intros)<;>try exact sd);(try first | refine XK.p hw ok119 ?_ | refine XK.gp hw ok119 ?_))
    exact RetOb.plain (d:=DB true) ⟨rfl,rfl⟩ rfl
  · rw [show (((ltr 3).toNat:Nat):Int)=118 from rfl]
    have g1:decide (0≤n)=true:=by simp at h ⊢;omega
    have g2:decide (n≤(vs.length:Int) - 1)=true:=by simp at h ⊢;omega
    have hw:=hw ((vs.length:Int) - 1)
    rw [g1,g2] at hw
    refine dcZ Try.func233 ?_
    simp only [go_sem]
    iterate 10 ((try (refine drvZ Try.func233 ?_;simp only [go_sem,Int.reduceLE,List.length_map]));((with_reducible and_intros)<;>try exact sd);(try first | refine XK.p hw ok119 ?_ | refine XK.gp hw ok119 ?_))
    exact RetOb.plain (d:=DB true) ⟨rfl,rfl⟩ rfl
  · rw [show (((ltr 4).toNat:Nat):Int)=97 from rfl]
    have g1:decide (0≤n)=true:=by simp at h ⊢;omega
    have g2:decide (n≤(ar.length:Int) - 1)=true:=by simp at h ⊢;omega
    have hw:=hw ((ar.length:Int) - 1)
    rw [g1,g2] at hw
    refine dcZ Try.func233 ?_
    simp only [go_sem]
    iterate 10 ((try (refine drvZ Try.func233 ?_;simp only [go_sem,Int.reduceLE,List.length_map]));((with_reducible and_intros)<;>try exact sd);(try first | refine XK.p hw ok119 ?_ | refine XK.gp hw ok119 ?_))
    exact RetOb.plain (d:=DB true) ⟨rfl,rfl⟩ rfl
  · rw [show (((ltr 5).toNat:Nat):Int)=111 from rfl]
    have g1:decide (4≤n)=true:=by simp at h ⊢;omega
    have g2:decide (n≤10)=true:=by simp at h ⊢;omega
    rw [g1,g2] at hw4
    refine dcZ Try.func233 ?_
    simp only [go_sem]
    iterate 10 ((try (refine drvZ Try.func233 ?_;simp only [go_sem,Int.reduceLE,List.length_map]));((with_reducible and_intros)<;>try exact sd);(try first | refine XK.p hw4 ok119 ?_ | refine XK.gp hw4 ok119 ?_))
    exact RetOb.plain (d:=DB true) ⟨rfl,rfl⟩ rfl
  · rw [show (((ltr 6).toNat:Nat):Int)=105 from rfl]
    have g1:decide (0≤n)=true:=by simp at h ⊢;omega
    have g2:decide (n≤(ls.length:Int) - 1)=true:=by simp at h ⊢;omega
    have hw:=hw ((ls.length:Int) - 1)
    rw [g1,g2] at hw
    refine dcZ Try.func233 ?_
    simp only [go_sem]
    iterate 10 ((try (refine drvZ Try.func233 ?_;simp only [go_sem,Int.reduceLE,List.length_map]));((with_reducible and_intros)<;>try exact sd);(try first | refine XK.p hw ok119 ?_ | refine XK.gp hw ok119 ?_))
    exact RetOb.plain (d:=DB true) ⟨rfl,rfl⟩ rfl
theorem fieldsI (x:In):DC Try.prog 232 [.agg (inX x)] [] (fun r h=>r = .c (isI [x.a,x.b,x.c,x.d])∧h=[]):=by
  have hmx:=mx_eq
  obtain ⟨op,a,b,c,d⟩:=x
  unfold inX
  refine dcZ Try.func232 ?_
  simp only [go_sem]
  iterate 3 ((try (refine drvZ Try.func232 ?_;simp only [go_sem]));((with_reducible and_intros)<;>try exact sd))
  refine RetOb.ofQ (fun _=>none) [640] (.c (isI [a,b,c,d])) [] ?_ ⟨rfl,rfl⟩ (by simp)
  simp [enumL,hOf,DM,CM,CMs,HpOK,LowOK,upd,kf,isI]
theorem kinds_le (op:Int) (i:Nat):(kindsOf op).getD i 0≤6:=by
  have:∀ l:List Nat,(∀ x ∈ l,x≤6)→l.getD i 0≤6:=fun l h=>by
    rw [List.getD_eq_getElem?_getD]
    cases hx:l[i]? with
    | none=>simp
    | some x=>simpa using h x (List.mem_of_getElem? hx)
  apply this
  unfold kindsOf
  repeat' split
  all_goals simp
theorem shp_at (op:Int) (i:Nat) (h:i<4):(shp op).data.toList.getD i 0=ltr ((kindsOf op).getD i 0):=by
  have:i=0∨i=1∨i=2∨i=3:=by omega
  rcases this with rfl | rfl | rfl | rfl<;>rfl
theorem toList_nil:ByteArray.toList { data:=#[] }=[]:=by
  unfold ByteArray.toList
  unfold ByteArray.toList.loop
  rfl
theorem loop_len (bs : ByteArray) : ∀ (n i : Nat) (r : List UInt8), bs.size - i = n → (ByteArray.toList.loop bs i r).length = r.length + n
  | 0,i,r,h=>by
    unfold ByteArray.toList.loop
    rw [if_neg (by omega)];simp
  | n+1,i,r,h=>by
    unfold ByteArray.toList.loop
    rw [if_pos (by omega),loop_len bs n (i+1) _ (by omega)]
    simp only [List.length_cons];omega
theorem shp_ne (op:Int) (h:1≤op∧op≤13):((shp op).toList == (ByteArray.toList { data:=#[] }))=false:=by
  rw [toList_nil,beq_eq_false_iff_ne]
  intro he
  have:=loop_len (shp op) 4 0 [] rfl
  unfold ByteArray.toList at he
  rw [he] at this
  simp at this
theorem instrOkT (c : Cd) (h1 : c.vars.length ≤ mx) (h2 : c.arrays.length ≤ mx) (h3 : c.list.length ≤ mx) (x : In) (h : inOK c.vars.length c.arrays.length c.list.length x = true) :
    DC Try.prog 220 [.agg (cdC c),.agg (inX x)] [] (fun r h=>r=DB true∧h=[]):=by
  have hmx:=mx_eq
  have hf:=fun k hk n hn=>fieldOkT c h1 h2 h3 k hk n hn
  have hfi:=fieldsI x
  obtain ⟨op,a,b,c',d⟩:=x
  simp only [inOK,Bool.and_eq_true,decide_eq_true_eq] at h
  obtain ⟨⟨⟨⟨⟨o1,o2⟩,q0⟩,q1⟩,q2⟩,q3⟩:=h
  have hsh:=shapeI op ⟨o1,o2⟩
  have hq:∀ i:Nat,i<4→fOK c.vars.length c.arrays.length c.list.length ((kindsOf op).getD i 0) ([a,b,c',d].getD i 0)=true:=fun i hi=>by
    have:i=0∨i=1∨i=2∨i=3:=by omega
    rcases this with rfl | rfl | rfl | rfl<;>assumption
  have hsz:(shp op).size=4:=rfl
  have hse:((shp op).toList == (ByteArray.toList { data:=#[] }))=false:=shp_ne op ⟨o1,o2⟩
  unfold cdC at hf ⊢
  unfold inX at hfi
  unfold inX
  refine dcZ Try.func220 ?_
  simp only [go_sem]
  iterate 5 ((try (refine drvZ Try.func220 ?_;simp only [go_sem]));((with_reducible and_intros)<;>try exact sd);(try first | refine XK.p hsh ok231 ?_ | refine XK.gp hsh ok231 ?_ | refine XK.p hfi ok232 ?_ | refine XK.gp hfi ok232 ?_))
  refine Go.loopQ (fun i : Nat => [(2, .c (.ptr 0 0)), (5, DS (shp op)), (12, .c (.isl 1 [[I64 a], [I64 b], [I64 c'], [I64 d]])), (13, DI .i64 4), (14, DI .i64 i)]) (fun _ => [(0, some [isI c.vars, isI c.arrays, .isl 5 (c.list.map inX)])])
    4096 (fun i=>i≤4) (fun i=>4 - i) ?_ 0 some [] _ (by omega) ?_
  · intro i hi again
    rcases Nat.lt_or_ge i 4 with hlt | hge
    · have hx:[[I64 a],[I64 b],[I64 c'],[I64 d]][i]? = some [I64 ([a,b,c',d].getD i 0)]:=by
        have:i=0∨i=1∨i=2∨i=3:=by omega
        rcases this with rfl | rfl | rfl | rfl<;>rfl
      have hc:=hf _ (kinds_le op i) _ (hq i hlt)
      have hat:=shp_at op i hlt
      have hlt':(i:Int)<4:=by omega
      generalize [a,b,c',d].getD i 0=n at *
      generalize (kindsOf op).getD i 0=k at *
      generalize [[I64 a],[I64 b],[I64 c'],[I64 d]]=fl at *
      generalize shp op=sp at *
      refine drvL Try.func220 ?_
      simp only [go_sem,hlt']
      iterate 5 ((try (refine drvZ Try.func220 ?_;simp only [go_sem,hx,hlt',hat,hsz,hse]));((with_reducible and_intros)<;>try exact sd);(try first | refine XK.p hc ok233 ?_ | refine XK.gp hc ok233 ?_))
      refine again (i+1) some [] _ (by omega) (by omega) ?_
      simp only [go_sem,TmOK,DM,DMs,CM,CMs,forall_eq,exists_eq_left,Mq,HpOK,LowOK]
      try simp
    · obtain rfl:i=4:=by omega
      have h44:(((4:Nat):Int)<4)=False:=eq_false (by decide)
      refine drvL Try.func220 ?_
      simp only [go_sem,h44]
      iterate 3 ((try (refine drvZ Try.func220 ?_;simp only [go_sem,h44]));((with_reducible and_intros)<;>try exact sd))
      exact RetOb.plain (d:=DB true) ⟨rfl,rfl⟩ rfl
  · simp only [go_sem,TmOK,DM,DMs,CM,CMs,forall_eq,exists_eq_left,Mq,HpOK,LowOK]
    simp
    exact fun a _=>rfl
open CtL (In Cd kindsOf topOf fOK inOK endOK codeOK atC halt)
theorem cvFn (c : Cd) (h1 : c.vars.length ≤ mx) (h2 : c.arrays.length ≤ mx) (h3 : c.list.length ≤ mx) (x : In) (h : inOK c.vars.length c.arrays.length c.list.length x = true) :
    DC Try.prog 219 [.agg (inX x),.c (.eptr (cdC c))] [] (fun r h=>r=DB false∧h=[]):=by
  have hio:=instrOkT c h1 h2 h3 x h
  unfold cdC at hio ⊢
  obtain ⟨op,a,b,c',d⟩:=x
  unfold inX at hio ⊢
  refine dcZ Try.func219 ?_
  simp only [go_sem]
  iterate 4 ((try (refine drvZ Try.func219 ?_;simp only [go_sem]));((with_reducible and_intros)<;>try exact sd);(try first | refine XK.p hio ok220 ?_ | refine XK.gp hio ok220 ?_))
  exact RetOb.plain (d:=DB false) ⟨rfl,rfl⟩ rfl
theorem indexFuncN (cc : List C) (xs : List In) (hl : xs.length ≤ mx) (hg : ∀ x ∈ xs, DC Try.prog 219 [.agg (inX x), .c (.eptr cc)] [] (fun r h => r = DB false ∧ h = [])) :
    DC Try.prog 230 [.c (.isl 5 (xs.map inX)),.c (.clo 219 [.eptr cc])] [] (fun d h=>d=DI .i64 (-1)∧h=[]):=by
  have hmx:=mx_eq
  refine dcZ Try.func230 ?_
  simp only [go_sem]
  ((try (refine drvZ Try.func230 ?_;simp only [go_sem]));((with_reducible and_intros)<;>try exact sd))
  refine Go.loopQ (fun i:Nat=>[(0,.c (.isl 5 (xs.map inX))),(1,.c (.clo 219 [.eptr cc])),(7,DI .i64 xs.length),(8,DI .i64 i)]) (fun _=>[]) 1024 (fun i=>i≤xs.length) (fun i=>xs.length - i) ?_ 0 some [] _ (Nat.zero_le _) ?_
  · intro i hi again
    rcases Nat.lt_or_ge i xs.length with hlt | hge
    · obtain ⟨⟨op,a,b,c,d⟩,hx⟩:∃ x,xs[i]? = some x:=⟨xs[i],by simp [hlt]⟩
      have hgx:=hg _ (List.mem_of_getElem? hx)
      simp only [inX] at hgx
      refine drvL Try.func230 ?_
      simp only [go_sem,hx,hlt,inX]
      iterate 5 ((try (refine drvZ Try.func230 ?_;simp only [go_sem,hx,hlt,inX]));((with_reducible and_intros)<;>try exact sd);(try first | refine XK.p hgx ok219 ?_ | refine XK.gp hgx ok219 ?_))
      refine again (i+1) some [] _ hlt (by omega) ?_
      simp only [go_sem,TmOK,DM,DMs,CM,CMs,forall_eq,exists_eq_left,Mq,HpOK,LowOK]
      first | done | (simp;done) | (simp;exact CM.kf rfl) | exact CM.kf rfl
    · have hn:¬ i<xs.length:=by omega
      refine drvL Try.func230 ?_
      simp only [go_sem,hn]
      iterate 3 ((try (refine drvZ Try.func230 ?_;simp only [go_sem,hn]));((with_reducible and_intros)<;>try exact sd))
      exact RetOb.plain (d:=DI .i64 (-1)) ⟨rfl,rfl⟩ rfl
  · simp only [go_sem,TmOK,DM,DMs,CM,CMs,forall_eq,exists_eq_left,Mq,HpOK,LowOK]
    first | done | (simp;done) | (simp;exact CM.kf rfl) | exact CM.kf rfl
theorem containsFuncN (cc : List C) (xs : List In) (hl : xs.length ≤ mx) (hg : ∀ x ∈ xs, DC Try.prog 219 [.agg (inX x), .c (.eptr cc)] [] (fun r h => r = DB false ∧ h = [])) :
    DC Try.prog 218 [.c (.isl 5 (xs.map inX)),.c (.clo 219 [.eptr cc])] [] (fun d h=>d=DB false∧h=[]):=by
  have hif:=indexFuncN cc xs hl hg
  refine dcZ Try.func218 ?_
  simp only [go_sem]
  iterate 3 ((try (refine drvZ Try.func218 ?_;simp only [go_sem,Int.reduceLE]));((with_reducible and_intros)<;>try exact sd);(try first | refine XK.p hif ok230 ?_ | refine XK.gp hif ok230 ?_))
  exact RetOb.plain (d:=DB false) ⟨rfl,rfl⟩ rfl
theorem codeValidT (c:Cd) (h1:c.vars.length≤mx) (h2:c.arrays.length≤mx) (h3:c.list.length≤mx) (h:codeOK c=true):DC Try.prog 194 [.agg (cdC c)] [] (fun r h=>r=DB true∧h=[]):=by
  have hmx:=mx_eq
  have hfn:=fun x hx=>cvFn c h1 h2 h3 x hx
  obtain ⟨vs,ar,l⟩:=c
  simp only [codeOK,Bool.and_eq_true,decide_eq_true_eq,List.all_eq_true] at h
  obtain ⟨⟨⟨⟨hh,hl1⟩,hl2⟩,hall⟩,hend⟩:=h
  simp only at h1 h2 h3 hfn
  have hcf:=containsFuncN (cdC ⟨vs,ar,l⟩) l h3 fun x hx=>hfn x (hall x hx)
  have hde:=declared vs ar h1 h2
  rw [hh] at hde
  have hw:=CtR.within l.length 1 400
  rw [decide_eq_true hl1,decide_eq_true hl2] at hw
  obtain ⟨x,hx⟩:∃ x,l[l.length - 1]? = some x:=⟨l[l.length - 1]'(by omega),by simp⟩
  have hat:atC l (l.length - 1)=x:=by simp [atC,List.getD,hx]
  simp only [endOK,hat,Bool.or_eq_true,beq_iff_eq] at hend
  have hpos:((l.length:Int) - 1).toNat=l.length - 1:=by omega
  obtain ⟨op,xa,xb,xc,xd⟩:=x
  simp only at hend
  unfold cdC at hcf ⊢
  refine dcZ Try.func194 ?_
  simp only [go_sem]
  iterate 6 ((try (refine drvZ Try.func194 ?_;simp only [go_sem,List.length_map]));((with_reducible and_intros)<;>try exact sd);(try first | refine XK.p hde ok145 ?_ | refine XK.gp hde ok145 ?_ | refine XK.p hw ok119 ?_ | refine XK.gp hw ok119 ?_))
  refine XK.subQ (r := some) (fz := [0]) (tl := [(1, .c (.eptr [isI vs, isI ar, .isl 5 (l.map inX)])), (2, DB false), (17, DB false), (19, .when true (.c (.isl 5 (l.map inX)))), (20, .when true (.c (.clo 219 [.eptr [isI vs, isI ar, .isl 5 (l.map inX)]])))])
    (hl:=[]) ?_ ?_
  · simp only [go_sem,TmOK,DM,DMs,CM,CMs,forall_eq,exists_eq_left,Mq,HpOK,LowOK]
    simp
  have hget:(l.map inX)[l.length - 1]? = some (inX ⟨op,xa,xb,xc,xd⟩):=by rw [List.getElem?_map,hx];rfl
  rcases hend with rfl | rfl
  · iterate 9 ((try (refine drvZ Try.func194 ?_;simp only [go_sem,List.length_map,hpos,hget,inX]));((with_reducible and_intros)<;>try exact sd);(try first | refine XK.p hcf ok218 ?_ | refine XK.gp hcf ok218 ?_))
    exact RetOb.plain (d:=DB true) ⟨rfl,rfl⟩ rfl
  · iterate 9 ((try (refine drvZ Try.func194 ?_;simp only [go_sem,List.length_map,hpos,hget,inX]));((with_reducible and_intros)<;>try exact sd);(try first | refine XK.p hcf ok218 ?_ | refine XK.gp hcf ok218 ?_))
    exact RetOb.plain (d:=DB true) ⟨rfl,rfl⟩ rfl
open CtL (In Cd codeOK)
abbrev mcB (k:Nat) (rg:List Int) (m:Mm):List (Option (List C)):=[some (rg.map I64),some (m.vals.map I64),some (hdr (k+3) (k+4) m.arrays.length),some (blk0 m.arrays),some (blk1 m.arrays)]
theorem startedI (m:Mm) (hv:m.vals.length≤1000) (ha:m.arrays.length≤2) (h4:∀ a ∈ m.arrays,a.length=4):DC Try.prog 195 [.agg m.cells] [] (fun r h=>r = .agg [I64 0,.msl 0 1 0 14,.msl 1 1 0 m.vals.length,.msl 2 1 0 m.arrays.length]∧h=mcB 0 (List.replicate 14 0) m):=by
  have hmx:=mx_eq
  have how:=own m hv ha h4
  unfold memB at how
  obtain ⟨va,arr⟩:=m
  refine dcZ Try.func195 ?_
  simp only [go_sem,Mm.cells]
  iterate 2 ((try (refine drvZ Try.func195 ?_;simp only [go_sem,Mm.cells]));((with_reducible and_intros)<;>try exact sd))
  refine XK.callG [] how ok120 (fun i' x h=>by simp at h) (hbT ()) (fun d h' ⟨_,e⟩=>by subst e;simp) ?_ (fun _=>⟨by kernel_rfl,_,_,⟨rfl,rfl⟩,by simp⟩)
  rintro _ _ ⟨rfl,rfl⟩ _
  iterate 4 ((try (refine drvZ Try.func195 ?_;simp only [go_sem,Mm.cells,renCs_I,renCs_hdr,renCs_b0,renCs_b1]));((with_reducible and_intros)<;>try exact sd))
  obtain ⟨Z,hZ⟩:∃ Z,Z=List.replicate 14 (0:Int):=⟨_,rfl⟩
  have e14:(List.replicate 14 [C.v (.int .i64 0)]).flatten=Z.map I64:=by rw [hZ];rfl
  rw [← hZ]
  refine RetOb.ofQ (fun j=>if j=0 then some 128 else if j=1 then some 256 else if j=2 then some 257 else if j=3 then some 258 else if j=4 then some 259 else none) [] (.agg [I64 0,.msl 0 1 0 14,.msl 1 1 0 va.length,.msl 2 1 0 arr.length]) (mcB 0 Z ⟨va,arr⟩) ?_ ⟨rfl,rfl⟩ (by simp)
  rw [e14]
  simp [mcB,enumL,hOf,DM,CMs,CM,HpOK,LowOK,upd,CMs_I,appUp,upsFrom,rkey,wkey,renCs_I,renCs_hdr,renCs_b0,renCs_b1,CMs_b0,CMs_b1,CMs_hdr]
open CtL (In Cd codeOK)
theorem code_len {c:Cd} (h:codeOK c=true):1≤c.vars.length∧c.vars.length≤12∧c.arrays.length≤2∧1≤c.list.length∧c.list.length≤400:=by
  simp only [codeOK,headsOK,Bool.and_eq_true,decide_eq_true_eq] at h
  obtain ⟨⟨⟨⟨⟨⟨⟨⟨h1,h2⟩,h3⟩,_⟩,_⟩,h4⟩,h5⟩,_⟩,_⟩:=h
  omega
theorem memOK_len {vs ar:List Int} {m:Mm} (h:memOK vs ar m=true):m.vals.length=vs.length∧m.arrays.length=ar.length∧∀ a ∈ m.arrays,a.length=4:=by
  simp only [memOK,Bool.and_eq_true,decide_eq_true_eq,List.all_eq_true] at h
  refine ⟨by omega,by omega,fun a ha=>?_⟩
  have:=h.2 a ha
  simp only [arrOK,Bool.and_eq_true,decide_eq_true_eq,beq_iff_eq] at this
  omega
def stmR (c:Cd) (m:Mm) (r:D) (h:List (Option (List C))):Prop :=
  if memOK c.vars c.arrays m=true then r = .tup [.agg [I64 0,.msl 0 1 0 14,.msl 1 1 0 m.vals.length,.msl 2 1 0 m.arrays.length],DB true]∧h=mcB 0 (List.replicate 14 0) m
  else r = .tup [.agg [I64 0,.v (.slice none 0 0),.v (.slice none 0 0),.v (.slice none 0 0)],DB false]∧h=[]
theorem startI (c:Cd) (m:Mm) (h:codeOK c=true):DC Try.prog 172 [.agg (cdC c),.agg m.cells] [] (stmR c m):=by
  have hmx:=mx_eq
  have hcl:=code_len h
  have hcv:=codeValidT c (by omega) (by omega) (by omega) h
  have him:=isMemory c.vars c.arrays m (by omega) (by omega)
  cases hm:memOK c.vars c.arrays m with
  | true =>
    have hml:=memOK_len hm
    have hst:=startedI m (by omega) (by omega) hml.2.2
    rw [show stmR c m=fun r h=>r = .tup [.agg [I64 0,.msl 0 1 0 14,.msl 1 1 0 m.vals.length,.msl 2 1 0 m.arrays.length],DB true]∧h=mcB 0 (List.replicate 14 0) m by funext r h;simp [stmR,hm]]
    rw [hm] at him
    generalize hZ:List.replicate 14 (0:Int)=Z at *
    generalize hR:(fun (r:D) (h:List (Option (List C)))=>r = .tup [.agg [I64 0,.msl 0 1 0 14,.msl 1 1 0 m.vals.length,.msl 2 1 0 m.arrays.length],DB true]∧h=mcB 0 Z m)=R
    obtain ⟨vs,ar,l⟩:=c
    obtain ⟨va,arr⟩:=m
    simp only [cdC,ints] at hcv him ⊢
    refine dcZ Try.func172 ?_
    simp only [go_sem,Mm.cells]
    iterate 5 ((try (refine drvZ Try.func172 ?_;simp only [go_sem,Mm.cells]));((with_reducible and_intros)<;>try exact sd);(try first | refine XK.p hcv ok194 ?_ | refine XK.gp hcv ok194 ?_ | refine XK.p him ok167 ?_ | refine XK.gp him ok167 ?_))
    refine XK.callG [] hst ok195 (fun i' x h=>by simp at h) (hbT ()) (fun d h' ⟨_,e⟩=>by subst e;simp) ?_
    rintro _ _ ⟨rfl,rfl⟩ _
    iterate 4 ((try (refine drvZ Try.func172 ?_;simp only [go_sem,Mm.cells,renCs_I,renCs_hdr,renCs_b0,renCs_b1]));((with_reducible and_intros)<;>try exact sd))
    refine RetOb.ofQ (fun j=>if j=0 then some 1088 else if j=1 then some 1089 else if j=2 then some 1090 else if j=3 then some 1091 else if j=4 then some 1092 else none) [] (.tup [.agg [I64 0,.msl 0 1 0 14,.msl 1 1 0 va.length,.msl 2 1 0 arr.length],DB true]) (mcB 0 Z ⟨va,arr⟩) ?_ (by rw [← hR];exact ⟨rfl,rfl⟩) (by simp)
    simp [mcB,enumL,hOf,DM,DMs,CMs,CM,HpOK,LowOK,upd,CMs_I,appUp,upsFrom,rkey,wkey,renCs_I,renCs_hdr,renCs_b0,renCs_b1,CMs_b0,CMs_b1,CMs_hdr]
  | false =>
    rw [show stmR c m=fun r h=>r = .tup [.agg [I64 0,.v (.slice none 0 0),.v (.slice none 0 0),.v (.slice none 0 0)],DB false]∧h=[] by funext r h;simp [stmR,hm]]
    rw [hm] at him
    obtain ⟨vs,ar,l⟩:=c
    obtain ⟨va,arr⟩:=m
    simp only [cdC,ints] at hcv him ⊢
    refine dcZ Try.func172 ?_
    simp only [go_sem,Mm.cells]
    iterate 6 ((try (refine drvZ Try.func172 ?_;simp only [go_sem,Mm.cells]));((with_reducible and_intros)<;>try exact sd);(try first | refine XK.p hcv ok194 ?_ | refine XK.gp hcv ok194 ?_ | refine XK.p him ok167 ?_ | refine XK.gp him ok167 ?_))
    refine RetOb.ofQ (fun _=>none) [] (.tup [.agg [I64 0,.v (.slice none 0 0),.v (.slice none 0 0),.v (.slice none 0 0)],DB false]) [] ?_ ⟨rfl,rfl⟩ (by simp)
    simp [enumL,DM,DMs,CM,CMs,HpOK,LowOK]
end Go.Proofs.Ytddanjifhdaebaa.CtD
