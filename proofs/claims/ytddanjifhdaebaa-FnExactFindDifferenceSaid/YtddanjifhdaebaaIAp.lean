/- Contracts of functions of the program, one behind the other, as plain data: what each call returns and which blocks it leaves. -/
import Derived.Test.YtddanjifhdaebaaIFacts
import Derived.Test.YtddanjifhdaebaaIAi
import Derived.Test.YtddanjifhdaebaaIAm
import Derived.Test.YtddanjifhdaebaaIAo
import Derived.Test.YtddanjifhdaebaaIAk
import Derived.Test.YtddanjifhdaebaaIAl
import Derived.Test.YtddanjifhdaebaaIAn
set_option linter.unusedVariables false
set_option linter.unusedSimpArgs false
set_option linter.unusedSectionVars false
set_option maxHeartbeats 16000000
set_option maxRecDepth 100000
namespace Go.Proofs.Ytddanjifhdaebaa.CtD
open Go Go.CT CtF CtR
variable [Yn]
open CtL (In Cd kindsOf topOf fOK inOK endOK codeOK atC halt)
def slt (k:Nat):UInt8:=if k=1 then 114 else if k=2 then 99 else if k=3 then 118 else if k=4 then 97 else if k=5 then 111 else 116
def sls (op:Int):ByteArray:=⟨(((kindsOf op).filter (fun k => !(k == 0))).map slt).toArray⟩
theorem l6FieldsS (op:Int) (h:1≤op∧op≤13):DC Try.prog 197 [DI .i64 op] [] (fun r h=>r=DS (sls op)∧h=[]):=by
 have hmx:=mx_eq
 have key:op=1∨op=2∨op=3∨op=4∨op=5∨op=6∨op=7∨op=8∨op=9∨op=10∨op=11∨op=12∨op=13:=by omega
 rcases key with rfl | rfl | rfl | rfl | rfl | rfl | rfl | rfl | rfl | rfl | rfl | rfl | rfl
 all_goals
  refine dcZ Try.func197 ?_
  simp only [go_sem]
  iterate 4 ((try (refine drvZ Try.func197 ?_;simp only [go_sem,Int.reduceLE,Int.reduceSub,Int.reduceToNat]));((with_reducible and_intros)<;>try exact sd))
  exact RetOb.plain (d:=DS _) ⟨rfl,rfl⟩ rfl
theorem l6PartsS (x:In):DC Try.prog 198 [.agg (inX x)] [] (fun r h=>r = .c (isI [x.a,x.b,x.c,x.d])∧h=[]):=by
 have hmx:=mx_eq
 obtain ⟨op,a,b,c,d⟩:=x
 unfold inX
 refine dcZ Try.func198 ?_
 simp only [go_sem]
 iterate 3 ((try (refine drvZ Try.func198 ?_;simp only [go_sem]));((with_reducible and_intros)<;>try exact sd))
 refine RetOb.ofQ (fun _=>none) [640] (.c (isI [a,b,c,d])) [] ?_ ⟨rfl,rfl⟩ (by simp)
 simp [isI,enumL,DM,DMs,CM,CMs,HpOK,LowOK,hOf,upd,kf]
theorem l6RangeS (c : Cd) (h1 : c.vars.length ≤ mx) (h2 : c.arrays.length ≤ mx) (h3 : c.list.length ≤ mx) (k : Nat) (hk : 1 ≤ k ∧ k ≤ 6) (n : Int) :
 DC Try.prog 199 [.agg (cdC c),.c (.v (.int .u8 (slt k).toNat)),DI .i64 n] [] (fun r h=>r=DB (fOK c.vars.length c.arrays.length c.list.length k n)∧h=[]):=by
 have hmx:=mx_eq
 obtain ⟨vs,ar,ls⟩:=c
 simp only at h1 h2 h3
 have ret:∀ (b:Bool) (hp:Hp),b=fOK vs.length ar.length ls.length k n→RetOb 0 (fun r h=>r=DB (fOK vs.length ar.length ls.length k n)∧h=[]) (DB b) hp:=fun b hp h=>RetOb.plain (d:=DB _) ⟨by rw [h],rfl⟩ rfl
 generalize hR:(fun (r:D) (h:List (Option (List C)))=>r=DB (fOK vs.length ar.length ls.length k n)∧h=[])=R at ret ⊢
 clear hR
 have key:k=1∨k=2∨k=3∨k=4∨k=5∨k=6:=by omega
 unfold cdC
 rcases key with rfl | rfl | rfl | rfl | rfl | rfl
 ·rw [show (((slt 1).toNat:Nat):Int)=114 from rfl]
  refine dcZ Try.func199 ?_
  simp only [go_sem]
  iterate 10 ((try (refine drvZ Try.func199 ?_;simp only [go_sem,List.length_map]));((with_reducible and_intros)<;>try exact sd))
  refine ret _ _ ?_
  rw [Bool.eq_iff_iff];simp [fOK,topOf];omega
 ·rw [show (((slt 2).toNat:Nat):Int)=99 from rfl]
  refine dcZ Try.func199 ?_
  simp only [go_sem]
  iterate 10 ((try (refine drvZ Try.func199 ?_;simp only [go_sem,List.length_map]));((with_reducible and_intros)<;>try exact sd))
  refine ret _ _ ?_
  rw [Bool.eq_iff_iff];simp [fOK,topOf]
 ·rw [show (((slt 3).toNat:Nat):Int)=118 from rfl]
  refine dcZ Try.func199 ?_
  simp only [go_sem]
  iterate 10 ((try (refine drvZ Try.func199 ?_;simp only [go_sem,List.length_map]));((with_reducible and_intros)<;>try exact sd))
  refine ret _ _ ?_
  rw [Bool.eq_iff_iff];simp [fOK,topOf];omega
 ·rw [show (((slt 4).toNat:Nat):Int)=97 from rfl]
  refine dcZ Try.func199 ?_
  simp only [go_sem]
  iterate 10 ((try (refine drvZ Try.func199 ?_;simp only [go_sem,List.length_map]));((with_reducible and_intros)<;>try exact sd))
  refine ret _ _ ?_
  rw [Bool.eq_iff_iff];simp [fOK,topOf];omega
 ·rw [show (((slt 5).toNat:Nat):Int)=111 from rfl]
  refine dcZ Try.func199 ?_
  simp only [go_sem]
  iterate 10 ((try (refine drvZ Try.func199 ?_;simp only [go_sem,List.length_map]));((with_reducible and_intros)<;>try exact sd))
  refine ret _ _ ?_
  rw [Bool.eq_iff_iff];simp [fOK,topOf]
 ·rw [show (((slt 6).toNat:Nat):Int)=116 from rfl]
  refine dcZ Try.func199 ?_
  simp only [go_sem]
  iterate 10 ((try (refine drvZ Try.func199 ?_;simp only [go_sem,List.length_map]));((with_reducible and_intros)<;>try exact sd))
  refine ret _ _ ?_
  rw [Bool.eq_iff_iff];simp [fOK,topOf];omega
theorem sls_len (op:Int) (i:Nat) (h:i<4):(i<(sls op).size) ↔ (kindsOf op).getD i 0 ≠ 0:=by
 have hi:i=0∨i=1∨i=2∨i=3:=by omega
 unfold sls kindsOf
 repeat' split
 all_goals rcases hi with rfl | rfl | rfl | rfl<;>decide
theorem kinds_len (op:Int):(kindsOf op).length=4:=by
 unfold kindsOf
 repeat' split
 all_goals rfl
theorem filt_at : ∀ (l : List Nat) (i : Nat), (∀ j k : Nat, j < k → l.getD k 0 ≠ 0 → l.getD j 0 ≠ 0) → l.getD i 0 ≠ 0 → ((l.filter (fun k => !(k == 0))).map slt)[i]? = some (slt (l.getD i 0))
 | [],i,_,h=>by simp at h
 | a :: r,i,hp,h=>by
  have ha:a ≠ 0:=by
   match i,h with
   | 0,h=>simpa using h
   | i+1,h=>have:=hp 0 (i+1) (by omega) h;simpa using this
  have hf:(a :: r).filter (fun k => !(k == 0))=a :: r.filter (fun k => !(k == 0)):=by simp [ha]
  rw [hf]
  match i,h with
  | 0,h=>simp
  | i+1,h =>
   have ih:=filt_at r i (fun j k hj hk=>by have:=hp (j+1) (k+1) (by omega) (by simpa using hk);simpa using this) (by simpa using h)
   simpa using ih
theorem kinds_pre (op:Int):∀ j k:Nat,j<k→(kindsOf op).getD k 0 ≠ 0→(kindsOf op).getD j 0 ≠ 0:=fun j k hj hk=>by
 have h4:k<4:=by
  rcases Nat.lt_or_ge k 4 with h4 | h4
  ·exact h4
  ·exfalso
   apply hk
   rw [List.getD_eq_getElem?_getD,List.getElem?_eq_none (by rw [kinds_len];exact h4)];rfl
 have hk':k=1∨k=2∨k=3:=by omega
 have hj':j=0∨j=1∨j=2:=by omega
 revert hk
 unfold kindsOf
 repeat' split
 all_goals (rcases hk' with rfl | rfl | rfl<;>rcases hj' with rfl | rfl | rfl<;>first | omega | decide)
theorem sls_at (op:Int) (i:Nat) (h:(kindsOf op).getD i 0 ≠ 0):(sls op).data.toList.getD i 0=slt ((kindsOf op).getD i 0):=by
 have:=filt_at (kindsOf op) i (kinds_pre op) h
 unfold sls
 rw [List.getD_eq_getElem?_getD]
 simp only
 rw [this];rfl
open CtL (In Cd Mc stepM kindsOf topOf fOK inOK endOK codeOK)
def mcA (s:Mc):List C:=[I64 s.pc,.msl 0 1 0 14,.msl 1 1 0 s.mem.vals.length,.msl 2 1 0 s.mem.arrays.length]
def exB (s:Mc) (T:List Ev):List (Option (List C)):=[some (s.regs.map I64),some (s.mem.vals.map I64),some (hdr 3 4 s.mem.arrays.length),some (blk0 s.mem.arrays),some (blk1 s.mem.arrays),some (trC T)]
def exB' (s:Mc) (T:List Ev):List (Option (List C)):=[some (s.regs.map I64),some (s.mem.vals.map I64),some (hdr 3 4 s.mem.arrays.length),some (blk0 s.mem.arrays),some (blk1 s.mem.arrays),none,some (trC T)]
def exeR (x:In) (s:Mc) (T:List Ev) (r:D) (h:List (Option (List C))):Prop:=r = .tup [.agg (mcA (stepM x s).1),.c (.msl 6 2 0 (T++(stepM x s).2).length)]∧h=exB' (stepM x s).1 (T++(stepM x s).2)
theorem hdrg0 {k k' n:Nat} (h:0<n):(hdr k k' n)[0]? = some (.msl k 1 0 4):=by
 unfold hdr
 match n,h with
 | n+1,_=>rfl
theorem hdrg1 {k k' n:Nat} (h:1<n):(hdr k k' n)[1]? = some (.msl k' 1 0 4):=by
 unfold hdr
 match n,h with
 | n+2,_=>rfl
theorem hdrgL {k k' n:Nat} (h:n≤2):(hdr k k' n).length=n:=by
 unfold hdr
 match n,h with
 | 0,_=>rfl
 | 1,_=>rfl
 | 2,_=>rfl
def mvN (x:In) (rg:List Int) (pc:Nat):Int:=if x.op=8 then x.a else if (x.op=9∧nth rg x.a=0)∨(x.op=10∧nth rg x.a ≠ 0) then x.b else if x.op=13 then pc else pc+1
theorem l6MoveP (x : In) (rg : List Int) (pc : Nat) (hpc : pc ≤ 400) (hl : rg.length = 14) (ha : x.op ≠ 8 → 0 ≤ x.a ∧ x.a ≤ 13) :
 DC Try.prog 200 [.agg (inX x),.c (isI rg),DI .i64 pc] [] (fun r h=>r=DI .i64 (mvN x rg pc)∧h=[]):=by
 have hmx:=mx_eq
 have ret:∀ (v:Int) (hp:Hp),v=mvN x rg pc→RetOb 0 (fun r h=>r=DI .i64 (mvN x rg pc)∧h=[]) (DI .i64 v) hp:=fun v hp h=>RetOb.plain (d:=DI .i64 _) ⟨by rw [h],rfl⟩ rfl
 generalize hR:(fun (r:D) (h:List (Option (List C)))=>r=DI .i64 (mvN x rg pc)∧h=[])=R at ret ⊢
 clear hR
 obtain ⟨op,a,b,c,d⟩:=x
 simp only at ha
 unfold inX
 by_cases h8:op=8
 ·subst h8
  refine dcZ Try.func200 ?_
  simp only [go_sem]
  iterate 4 ((try (refine drvZ Try.func200 ?_;simp only [go_sem]));((with_reducible and_intros)<;>try exact sd))
  refine ret _ _ ?_
  simp [mvN]
 have e8:(op == 8)=false:=by simp [h8]
 have ha0:=ha h8
 have hx:(rg.map fun n=>[I64 n])[a.toNat]? = some [I64 (nth rg a)]:=by
  have h0:=(nth_mem (l:=rg) (i:=a) ha0.1 (by omega)).1
  rw [List.getElem?_map,h0];rfl
 by_cases h9:op=9
 ·subst h9
  by_cases hz:nth rg a=0
  ·refine dcZ Try.func200 ?_
   simp only [go_sem,hx,hl]
   iterate 4 ((try (refine drvZ Try.func200 ?_;simp only [go_sem,hx,hl,hz]));((with_reducible and_intros)<;>try exact sd))
   refine ret _ _ ?_
   simp [mvN,hz]
  ·have ez:(nth rg a == 0)=false:=by simp [hz]
   refine dcZ Try.func200 ?_
   simp only [go_sem,hx,hl]
   iterate 8 ((try (refine drvZ Try.func200 ?_;simp only [go_sem,hx,hl,ez]));((with_reducible and_intros)<;>try exact sd))
   refine ret _ _ ?_
   simp [mvN,hz]
 have e9:(op == 9)=false:=by simp [h9]
 by_cases h10:op=10
 ·subst h10
  by_cases hz:nth rg a=0
  ·have ez:(nth rg a != 0)=false:=by simp [hz]
   refine dcZ Try.func200 ?_
   simp only [go_sem,hx,hl]
   iterate 8 ((try (refine drvZ Try.func200 ?_;simp only [go_sem,hx,hl,hz,ez]));((with_reducible and_intros)<;>try exact sd))
   refine ret _ _ ?_
   simp [mvN,hz]
  ·have ez:(nth rg a != 0)=true:=by simp [hz]
   refine dcZ Try.func200 ?_
   simp only [go_sem,hx,hl]
   iterate 6 ((try (refine drvZ Try.func200 ?_;simp only [go_sem,hx,hl,ez]));((with_reducible and_intros)<;>try exact sd))
   refine ret _ _ ?_
   simp [mvN,hz]
 have e10:(op == 10)=false:=by simp [h10]
 by_cases h13:op=13
 ·subst h13
  refine dcZ Try.func200 ?_
  simp only [go_sem,hx,hl]
  iterate 12 ((try (refine drvZ Try.func200 ?_;simp only [go_sem,hx,hl]));((with_reducible and_intros)<;>try exact sd))
  refine ret _ _ ?_
  simp [mvN]
 have e13:(op == 13)=false:=by simp [h13]
 refine dcZ Try.func200 ?_
 simp only [go_sem,e8,e9,e10,e13,hx,hl]
 iterate 12 ((try (refine drvZ Try.func200 ?_;simp only [go_sem,e8,e9,e10,e13,hx,hl]));((with_reducible and_intros)<;>try exact sd))
 refine ret _ _ ?_
 simp [mvN,h8,h9,h10,h13]
theorem mvN_step (c:Cd) {x:In} {s:Mc} (hs:MOK c s) (h:inOK c.vars.length c.arrays.length c.list.length x=true):mvN x (stepM x s).1.regs s.pc=((stepM x s).1.pc:Int):=by
 have hl:=hs.len
 obtain ⟨op,a,b,cc,d⟩:=x
 simp only [inOK,Bool.and_eq_true,decide_eq_true_eq] at h
 obtain ⟨⟨⟨⟨⟨o1,o2⟩,q0⟩,q1⟩,q2⟩,q3⟩:=h
 have key:op=1∨op=2∨op=3∨op=4∨op=5∨op=6∨op=7∨op=8∨op=9∨op=10∨op=11∨op=12∨op=13:=by omega
 rcases key with rfl | rfl | rfl | rfl | rfl | rfl | rfl | rfl | rfl | rfl | rfl | rfl | rfl
 all_goals simp [fOK,topOf,kindsOf] at q0 q1 q2 q3
 all_goals simp [mvN,stepM]
 ·omega
 ·split
  ·omega
  ·rfl
 ·have hn:nth (s.regs.set a.toNat ((nth s.regs a+255) % 256)) a=(nth s.regs a+255) % 256:=by
   unfold nth
   rw [List.getD_eq_getElem?_getD,List.getElem?_set_self (by omega)];rfl
  rw [hn]
  split
  ·simp_all
  ·simp_all
   omega
theorem l6MoveO (c : Cd) (x : In) (s : Mc) (hc1 : c.list.length ≤ 400) (hs : MOK c s) (h : inOK c.vars.length c.arrays.length c.list.length x = true) (h14 : (stepM x s).1.regs.length = 14) :
 DC Try.prog 200 [.agg (inX x),.c (.msl 0 1 0 14),DI .i64 s.pc] [some ((stepM x s).1.regs.map I64)] (fun r h=>r=DI .i64 (stepM x s).1.pc∧h=[some ((stepM x s).1.regs.map I64)]):=by
 have hpc:=hs.pc
 have hp:=l6MoveP x (stepM x s).1.regs s.pc (by omega) h14 (fun ho=>by
  have h12:=hs.mem.nv12
  have h2:=hs.mem.na2
  simp only [hdC] at h12 h2
  obtain ⟨op,a,b,cc,d⟩:=x
  simp only [inOK,Bool.and_eq_true,decide_eq_true_eq] at h
  obtain ⟨⟨⟨⟨⟨o1,o2⟩,q0⟩,q1⟩,q2⟩,q3⟩:=h
  simp only at ho
  have key:op=1∨op=2∨op=3∨op=4∨op=5∨op=6∨op=7∨op=9∨op=10∨op=11∨op=12∨op=13:=by omega
  simp only
  rcases key with rfl | rfl | rfl | rfl | rfl | rfl | rfl | rfl | rfl | rfl | rfl | rfl<;>simp [fOK,topOf,kindsOf] at q0<;>omega)
 rw [mvN_step c hs h] at hp
 exact DC.borrow [0] (by
  simp [enumL,hOf,hpL,DM,DMs,CM,CMs,isI,inX,h14]
  exact ⟨(flat_I _).symm,fun a _=>rfl⟩) hp
end Go.Proofs.Ytddanjifhdaebaa.CtD
