/- Contracts of functions of the program, one behind the other, as plain data: what each call returns and which blocks it leaves. -/
import Derived.Test.YtbknljofedfpjaaGreatYFacts
import Derived.Test.YtbknljofedfpjaaGreatYAi
import Derived.Test.YtbknljofedfpjaaGreatYAk
import Derived.Test.YtbknljofedfpjaaGreatYAr
import Derived.Test.YtbknljofedfpjaaGreatYAs
import Derived.Test.YtbknljofedfpjaaGreatYAt
import Derived.Test.YtbknljofedfpjaaGreatYAw
import Derived.Test.YtbknljofedfpjaaGreatYAm
import Derived.Test.YtbknljofedfpjaaGreatYAv
import Derived.Test.YtbknljofedfpjaaGreatYAn
import Derived.Test.YtbknljofedfpjaaGreatYAo
import Derived.Test.YtbknljofedfpjaaGreatYAu
set_option linter.unusedVariables false
set_option linter.unusedSimpArgs false
set_option linter.unusedSectionVars false
set_option maxHeartbeats 16000000
set_option maxRecDepth 100000
namespace Go.Proofs.YtbknljofedfpjaaGreat.CtD
open Go Go.CT CtF CtR
variable [Yn]
open CtL (In Cd kindsOf topOf fOK inOK endOK codeOK atC halt)
def slt (k:Nat):UInt8:=if k=1 then 114 else if k=2 then 99 else if k=3 then 118 else if k=4 then 97 else if k=5 then 111 else 116
def sls (op:Int):ByteArray:=⟨(((kindsOf op).filter (fun k => !(k == 0))).map slt).toArray⟩
theorem l6FieldsS (op:Int) (h:1≤op∧op≤13):DC Tryz.prog 140 [DI .i64 op] [] (fun r h=>r=DS (sls op)∧h=[]):=by
 have hmx:=mx_eq
 have key:op=1∨op=2∨op=3∨op=4∨op=5∨op=6∨op=7∨op=8∨op=9∨op=10∨op=11∨op=12∨op=13:=by omega
 rcases key with rfl | rfl | rfl | rfl | rfl | rfl | rfl | rfl | rfl | rfl | rfl | rfl | rfl
 all_goals
  refine dcZ Tryz.func140 ?_
  simp only [go_sem]
  iterate 4 ((try (refine drvZ Tryz.func140 ?_;simp only [go_sem,Int.reduceLE,Int.reduceSub,Int.reduceToNat]));((with_reducible and_intros)<;>try exact sd))
  exact RetOb.plain (d:=DS _) ⟨rfl,rfl⟩ rfl
theorem l6PartsS (x:In):DC Tryz.prog 141 [.agg (inX x)] [] (fun r h=>r = .c (isI [x.a,x.b,x.c,x.d])∧h=[]):=by
 have hmx:=mx_eq
 obtain ⟨op,a,b,c,d⟩:=x
 unfold inX
 refine dcZ Tryz.func141 ?_
 simp only [go_sem]
 iterate 3 ((try (refine drvZ Tryz.func141 ?_;simp only [go_sem]));((with_reducible and_intros)<;>try exact sd))
 refine RetOb.ofQ (fun _=>none) [640] (.c (isI [a,b,c,d])) [] ?_ ⟨rfl,rfl⟩ (by simp)
 simp [isI,enumL,DM,DMs,CM,CMs,HpOK,LowOK,hOf,upd,kf]
theorem l6RangeS (c : Cd) (h1 : c.vars.length ≤ mx) (h2 : c.arrays.length ≤ mx) (h3 : c.list.length ≤ mx) (k : Nat) (hk : 1 ≤ k ∧ k ≤ 6) (n : Int) :
 DC Tryz.prog 142 [.agg (cdC c),.c (.v (.int .u8 (slt k).toNat)),DI .i64 n] [] (fun r h=>r=DB (fOK c.vars.length c.arrays.length c.list.length k n)∧h=[]):=by
 have hmx:=mx_eq
 obtain ⟨vs,ar,ls⟩:=c
 simp only at h1 h2 h3
 have ret:∀ (b:Bool) (hp:Hp),b=fOK vs.length ar.length ls.length k n→RetOb 0 (fun r h=>r=DB (fOK vs.length ar.length ls.length k n)∧h=[]) (DB b) hp:=fun b hp h=>RetOb.plain (d:=DB _) ⟨by rw [h],rfl⟩ rfl
 generalize hR:(fun (r:D) (h:List (Option (List C)))=>r=DB (fOK vs.length ar.length ls.length k n)∧h=[])=R at ret ⊢
 clear hR
 have key:k=1∨k=2∨k=3∨k=4∨k=5∨k=6:=by omega
 unfold cdC
 rcases key with rfl | rfl | rfl | rfl | rfl | rfl
 ·rw [show (((slt 1).toNat:Nat):Int)=114 from rfl]
  refine dcZ Tryz.func142 ?_
  simp only [go_sem]
  iterate 10 ((try (refine drvZ Tryz.func142 ?_;simp only [go_sem,List.length_map]));((with_reducible and_intros)<;>try exact sd))
  refine ret _ _ ?_
  rw [Bool.eq_iff_iff];simp [fOK,topOf];omega
 ·rw [show (((slt 2).toNat:Nat):Int)=99 from rfl]
  refine dcZ Tryz.func142 ?_
  simp only [go_sem]
  iterate 10 ((try (refine drvZ Tryz.func142 ?_;simp only [go_sem,List.length_map]));((with_reducible and_intros)<;>try exact sd))
  refine ret _ _ ?_
  rw [Bool.eq_iff_iff];simp [fOK,topOf]
 ·rw [show (((slt 3).toNat:Nat):Int)=118 from rfl]
  refine dcZ Tryz.func142 ?_
  simp only [go_sem]
  iterate 10 ((try (refine drvZ Tryz.func142 ?_;simp only [go_sem,List.length_map]));((with_reducible and_intros)<;>try exact sd))
  refine ret _ _ ?_
  rw [Bool.eq_iff_iff];simp [fOK,topOf];omega
 ·rw [show (((slt 4).toNat:Nat):Int)=97 from rfl]
  refine dcZ Tryz.func142 ?_
  simp only [go_sem]
  iterate 10 ((try (refine drvZ Tryz.func142 ?_;simp only [go_sem,List.length_map]));((with_reducible and_intros)<;>try exact sd))
  refine ret _ _ ?_
  rw [Bool.eq_iff_iff];simp [fOK,topOf];omega
 ·rw [show (((slt 5).toNat:Nat):Int)=111 from rfl]
  refine dcZ Tryz.func142 ?_
  simp only [go_sem]
  iterate 10 ((try (refine drvZ Tryz.func142 ?_;simp only [go_sem,List.length_map]));((with_reducible and_intros)<;>try exact sd))
  refine ret _ _ ?_
  rw [Bool.eq_iff_iff];simp [fOK,topOf]
 ·rw [show (((slt 6).toNat:Nat):Int)=116 from rfl]
  refine dcZ Tryz.func142 ?_
  simp only [go_sem]
  iterate 10 ((try (refine drvZ Tryz.func142 ?_;simp only [go_sem,List.length_map]));((with_reducible and_intros)<;>try exact sd))
  refine ret _ _ ?_
  rw [Bool.eq_iff_iff];simp [fOK,topOf];omega
theorem sls_len (op:Int) (i:Nat) (h:i<4):(i<(sls op).size) ↔ (kindsOf op).getD i 0 ≠ 0:=by
 have hi:i=0∨i=1∨i=2∨i=3:=by omega
 unfold sls kindsOf
 repeat' split
 all_goals rcases hi with rfl | rfl | rfl | rfl<;>decide
theorem kinds_len (op:Int):(kindsOf op).length=4:=by
 unfold kindsOf
 repeat' split
 all_goals rfl
theorem filt_at : ∀ (l : List Nat) (i : Nat), (∀ j k : Nat, j < k → l.getD k 0 ≠ 0 → l.getD j 0 ≠ 0) → l.getD i 0 ≠ 0 → ((l.filter (fun k => !(k == 0))).map slt)[i]? = some (slt (l.getD i 0))
 | [],i,_,h=>by simp at h
 | a :: r,i,hp,h=>by
  have ha:a ≠ 0:=by
   match i,h with
   | 0,h=>simpa using h
   | i+1,h=>have:=hp 0 (i+1) (by omega) h;simpa using this
  have hf:(a :: r).filter (fun k => !(k == 0))=a :: r.filter (fun k => !(k == 0)):=by simp [ha]
  rw [hf]
  match i,h with
  | 0,h=>simp
  | i+1,h =>
   have ih:=filt_at r i (fun j k hj hk=>by have:=hp (j+1) (k+1) (by omega) (by simpa using hk);simpa using this) (by simpa using h)
   simpa using ih
theorem kinds_pre (op:Int):∀ j k:Nat,j<k→(kindsOf op).getD k 0 ≠ 0→(kindsOf op).getD j 0 ≠ 0:=fun j k hj hk=>by
 have h4:k<4:=by
  rcases Nat.lt_or_ge k 4 with h4 | h4
  ·exact h4
  ·exfalso
   apply hk
   rw [List.getD_eq_getElem?_getD,List.getElem?_eq_none (by rw [kinds_len];exact h4)];rfl
 have hk':k=1∨k=2∨k=3:=by omega
 have hj':j=0∨j=1∨j=2:=by omega
 revert hk
 unfold kindsOf
 repeat' split
 all_goals (rcases hk' with rfl | rfl | rfl<;>rcases hj' with rfl | rfl | rfl<;>first | omega | decide)
theorem sls_at (op:Int) (i:Nat) (h:(kindsOf op).getD i 0 ≠ 0):(sls op).data.toList.getD i 0=slt ((kindsOf op).getD i 0):=by
 have:=filt_at (kindsOf op) i (kinds_pre op) h
 unfold sls
 rw [List.getD_eq_getElem?_getD]
 simp only
 rw [this];rfl
open CtL (In Cd Mc stepM kindsOf topOf fOK inOK endOK codeOK)
open CtL (In Cd Mc stepM kindsOf topOf fOK inOK endOK codeOK)
open CtL (In Cd Mc stepM kindsOf topOf fOK inOK endOK codeOK)
open CtL (In Cd Mc stepM kindsOf topOf fOK inOK endOK codeOK runM atC halt runC)
open CtL (In Cd Mc stepM kindsOf topOf fOK inOK endOK codeOK runM atC halt runC)
theorem heads6 (c:Cd):DC Tryz.prog 50 [.agg (cdC c)] [] (fun r h=>r = .agg (Pg.cells (hdC c))∧h=[]):=by
 have hmx:=mx_eq
 obtain ⟨vs,ar,l⟩:=c
 unfold cdC hdC
 refine dcZ Tryz.func50 ?_
 simp only [go_sem]
 iterate 4 ((try (refine drvZ Tryz.func50 ?_;simp only [go_sem]));((with_reducible and_intros)<;>try exact sd))
 refine RetOb.ofQ (fun _=>none) [] (.agg (Pg.cells ⟨vs,ar,[]⟩)) [] ?_ ⟨rfl,rfl⟩ (by simp)
 simp [Pg.cells,St1.cellsL,isI,enumL,DM,DMs,CM,CMs,HpOK,LowOK,hOf,upd,kf]
theorem l6InstrS (c : Cd) (h1 : c.vars.length ≤ mx) (h2 : c.arrays.length ≤ mx) (h3 : c.list.length ≤ mx) (x : In) :
 DC Tryz.prog 98 [.agg (cdC c),.agg (inX x)] [] (fun r h=>r=DB (inOK c.vars.length c.arrays.length c.list.length x)∧h=[]):=by
 have hmx:=mx_eq
 have hf:=fun k hk n=>l6RangeS c h1 h2 h3 k hk n
 have hpa:=l6PartsS x
 have ret:∀ (b:Bool) (hp:Hp),b=inOK c.vars.length c.arrays.length c.list.length x→RetOb 0 (fun r h=>r=DB (inOK c.vars.length c.arrays.length c.list.length x)∧h=[]) (DB b) hp:=fun b hp h=>RetOb.plain (d:=DB _) ⟨by rw [h],rfl⟩ rfl
 generalize hR:(fun (r:D) (h:List (Option (List C)))=>r=DB (inOK c.vars.length c.arrays.length c.list.length x)∧h=[])=R at ret ⊢
 clear hR
 obtain ⟨op,a,b,c',d⟩:=x
 by_cases o1:op<1
 ·have g1:(op<1)=True:=eq_true o1
  unfold cdC inX
  refine dcZ Tryz.func98 ?_
  simp only [go_sem,g1]
  iterate 5 ((try (refine drvZ Tryz.func98 ?_;simp only [go_sem,g1]));((with_reducible and_intros)<;>try exact sd))
  refine ret _ _ ?_
  have hf0:decide (1≤op)=false:=by simp;omega
  simp [inOK,hf0]
 by_cases o2:13<op
 ·have g1:(op<1)=False:=eq_false o1
  have g2:(13<op)=True:=eq_true o2
  unfold cdC inX
  refine dcZ Tryz.func98 ?_
  simp only [go_sem,g1,g2]
  iterate 5 ((try (refine drvZ Tryz.func98 ?_;simp only [go_sem,g1,g2]));((with_reducible and_intros)<;>try exact sd))
  refine ret _ _ ?_
  have hf0:decide (op≤13)=false:=by simp;omega
  simp [inOK,hf0]
 have g1:(op<1)=False:=eq_false o1
 have g2:(13<op)=False:=eq_false o2
 have hfd:=l6FieldsS op (by omega)
 have hk6:∀ i:Nat,(kindsOf op).getD i 0 ≠ 0→1≤(kindsOf op).getD i 0∧(kindsOf op).getD i 0≤6:=fun i h=>⟨by omega,kinds_le op i⟩
 have hin:inOK c.vars.length c.arrays.length c.list.length ⟨op,a,b,c',d⟩=(fOK c.vars.length c.arrays.length c.list.length ((kindsOf op).getD 0 0) a && fOK c.vars.length c.arrays.length c.list.length ((kindsOf op).getD 1 0) b && fOK c.vars.length c.arrays.length c.list.length ((kindsOf op).getD 2 0) c' && fOK c.vars.length c.arrays.length c.list.length ((kindsOf op).getD 3 0) d):=by
  unfold inOK
  rw [show decide (1≤op)=true by simp;omega,show decide (op≤13)=true by simp;omega]
  rfl
 rw [hin] at ret
 have retF:∀ (i:Nat) (hp:Hp),i<4→fOK c.vars.length c.arrays.length c.list.length ((kindsOf op).getD i 0) ([a,b,c',d].getD i 0)=false→RetOb 0 R (DB false) hp:=fun i hp hi h=>by
  refine ret _ _ ?_
  have:i=0∨i=1∨i=2∨i=3:=by omega
  rcases this with rfl | rfl | rfl | rfl
  ·rw [show fOK c.vars.length c.arrays.length c.list.length ((kindsOf op).getD 0 0) a=false from h];simp only [Bool.and_false,Bool.false_and]
  ·rw [show fOK c.vars.length c.arrays.length c.list.length ((kindsOf op).getD 1 0) b=false from h];simp only [Bool.and_false,Bool.false_and]
  ·rw [show fOK c.vars.length c.arrays.length c.list.length ((kindsOf op).getD 2 0) c'=false from h];simp only [Bool.and_false,Bool.false_and]
  ·rw [show fOK c.vars.length c.arrays.length c.list.length ((kindsOf op).getD 3 0) d=false from h];simp only [Bool.and_false]
 have retT:∀ (hp:Hp),(∀ i:Nat,i<4→fOK c.vars.length c.arrays.length c.list.length ((kindsOf op).getD i 0) ([a,b,c',d].getD i 0)=true)→RetOb 0 R (DB true) hp:=fun hp h=>by
  refine ret _ _ ?_
  have q0:=h 0 (by omega)
  have q1:=h 1 (by omega)
  have q2:=h 2 (by omega)
  have q3:=h 3 (by omega)
  rw [show fOK c.vars.length c.arrays.length c.list.length ((kindsOf op).getD 0 0) a=true from q0,show fOK c.vars.length c.arrays.length c.list.length ((kindsOf op).getD 1 0) b=true from q1,show fOK c.vars.length c.arrays.length c.list.length ((kindsOf op).getD 2 0) c'=true from q2,show fOK c.vars.length c.arrays.length c.list.length ((kindsOf op).getD 3 0) d=true from q3];rfl
 clear ret hin
 have hcx:cdC c=[isI c.vars,isI c.arrays,.isl 5 (c.list.map inX)]:=rfl
 have hlx:inX ⟨op,a,b,c',d⟩=[I64 op,I64 a,I64 b,I64 c',I64 d]:=rfl
 rw [hlx] at hpa ⊢
 simp only [hcx] at hf ⊢
 simp only at hpa
 generalize hLI:c.list.map inX=LI at *
 refine dcZ Tryz.func98 ?_
 simp only [go_sem,g1,g2]
 iterate 6 ((try (refine drvZ Tryz.func98 ?_;simp only [go_sem,g1,g2]));((with_reducible and_intros)<;>try exact sd);(try first | refine XK.p hfd ok140 ?_ | refine XK.gp hfd ok140 ?_ | refine XK.p hpa ok141 ?_ | refine XK.gp hpa ok141 ?_))
 refine Go.loopQ (fun i : Nat => [(2, .c (.ptr 0 0)), (5, DS (sls op)), (6, .c (.isl 1 [[I64 a], [I64 b], [I64 c'], [I64 d]])), (7, DI .i64 i)]) (fun _ => [(0, some [isI c.vars, isI c.arrays, .isl 5 LI])])
  2048 (fun i=>i≤4∧∀ j:Nat,j<i→fOK c.vars.length c.arrays.length c.list.length ((kindsOf op).getD j 0) ([a,b,c',d].getD j 0)=true) (fun i=>4 - i) ?_ 0 some [] _ ⟨by omega,fun j hj=>by omega⟩ ?_
 ·rintro i ⟨hi,hI⟩ again
  rcases Nat.lt_or_ge i 4 with hlt | hge
  ·have hx:[[I64 a],[I64 b],[I64 c'],[I64 d]][i]? = some [I64 ([a,b,c',d].getD i 0)]:=by
    have:i=0∨i=1∨i=2∨i=3:=by omega
    rcases this with rfl | rfl | rfl | rfl<;>rfl
   have hlt':(i:Int)<4:=by omega
   have hlt2:i < [[I64 a],[I64 b],[I64 c'],[I64 d]].length:=hlt
   have hln:=sls_len op i hlt
   have hat:=sls_at op i
   have hkk:=hk6 i
   have retF:=fun hp=>retF i hp hlt
   have hst:∀ q:fOK c.vars.length c.arrays.length c.list.length ((kindsOf op).getD i 0) ([a,b,c',d].getD i 0)=true,i+1≤4∧∀ j:Nat,j<i+1→fOK c.vars.length c.arrays.length c.list.length ((kindsOf op).getD j 0) ([a,b,c',d].getD j 0)=true:=fun q=>⟨hlt,fun j hj=>by
    by_cases e:j=i
    ·subst e;exact q
    ·exact hI j (by omega)⟩
   have hfz:(kindsOf op).getD i 0=0→fOK c.vars.length c.arrays.length c.list.length ((kindsOf op).getD i 0) ([a,b,c',d].getD i 0)=decide ([a,b,c',d].getD i 0=0):=fun e=>by
    rw [e,Bool.eq_iff_iff];simp [fOK,topOf];omega
   generalize [a,b,c',d].getD i 0=n at *
   generalize (kindsOf op).getD i 0=k at *
   generalize [[I64 a],[I64 b],[I64 c'],[I64 d]]=fl at *
   generalize sls op=sp at *
   by_cases hk0:k=0
   ·subst hk0
    have hq:=hfz rfl
    have hnl:¬ i<sp.size:=fun h=>by have:=hln.1 h;omega
    have hge':(sp.size:Int)≤i:=by omega
    by_cases hn:n=0
    ·have e1:(n != 0)=false:=by simp [hn]
     have hs:=hst (by rw [hq];simp [hn])
     refine drvL Tryz.func98 ?_
     simp only [go_sem,hlt',hlt2]
     iterate 8 ((try (refine drvZ Tryz.func98 ?_;simp only [go_sem,hx,hlt',hlt2,hnl,hge',e1]));((with_reducible and_intros)<;>try exact sd);(try first | refine XK.gs (DB false) ?_))
     refine again (i+1) some [] _ hs (by omega) ?_
     simp only [go_sem,TmOK,DM,DMs,CM,CMs,forall_eq,exists_eq_left,Mq,HpOK,LowOK]
     try simp
    ·have e1:(n != 0)=true:=by simp [hn]
     refine drvL Tryz.func98 ?_
     simp only [go_sem,hlt',hlt2]
     iterate 8 ((try (refine drvZ Tryz.func98 ?_;simp only [go_sem,hx,hlt',hlt2,hnl,hge',e1]));((with_reducible and_intros)<;>try exact sd);(try first | refine XK.gs (DB false) ?_))
     exact retF _ (by rw [hq];simp [hn])
   ·have hrg:=hf k (hkk hk0) n
    have hli:i<sp.size:=hln.2 hk0
    have hnge:¬ (sp.size:Int)≤i:=by omega
    have hat:=hat hk0
    cases hq:fOK c.vars.length c.arrays.length c.list.length k n with
    | true =>
     rw [hq] at hrg
     have hs:=hst hq
     refine drvL Tryz.func98 ?_
     simp only [go_sem,hlt',hlt2]
     iterate 6 ((try (refine drvZ Tryz.func98 ?_;simp only [go_sem,hx,hlt',hlt2,hli,hnge,hat]));((with_reducible and_intros)<;>try exact sd);(try first | refine XK.p hrg ok142 ?_ | refine XK.gp hrg ok142 ?_))
     refine again (i+1) some [] _ hs (by omega) ?_
     simp only [go_sem,TmOK,DM,DMs,CM,CMs,forall_eq,exists_eq_left,Mq,HpOK,LowOK]
     try simp
    | false =>
     rw [hq] at hrg
     refine drvL Tryz.func98 ?_
     simp only [go_sem,hlt',hlt2]
     iterate 6 ((try (refine drvZ Tryz.func98 ?_;simp only [go_sem,hx,hlt',hlt2,hli,hnge,hat]));((with_reducible and_intros)<;>try exact sd);(try first | refine XK.p hrg ok142 ?_ | refine XK.gp hrg ok142 ?_))
     exact retF _ hq
  ·obtain rfl:i=4:=by omega
   have h44:(((4:Nat):Int)<4)=False:=eq_false (by decide)
   refine drvL Tryz.func98 ?_
   simp only [go_sem,h44]
   iterate 3 ((try (refine drvZ Tryz.func98 ?_;simp only [go_sem,h44]));((with_reducible and_intros)<;>try exact sd))
   exact retT _ hI
 ·simp only [go_sem,TmOK,DM,DMs,CM,CMs,forall_eq,exists_eq_left,Mq,HpOK,LowOK]
  try simp
theorem codeValidS (c:Cd) (h1:c.vars.length≤2000000) (h2:c.arrays.length≤2000000) (h3:c.list.length≤100000000):DC Tryz.prog 41 [.agg (cdC c)] [] (fun r h=>r=DB (codeOK c)∧h=[]):=by
 have hmx:=mx_eq
 have hf:=fun x=>l6InstrS c (by omega) (by omega) (by omega) x
 have hhd:=heads6 c
 have hh2:=l2Heads (hdC c) (by simp only [hdC];omega) (by simp only [hdC];omega)
 have ret:∀ (b:Bool) (hp:Hp),b=codeOK c→RetOb 0 (fun r h=>r=DB (codeOK c)∧h=[]) (DB b) hp:=fun b hp h=>RetOb.plain (d:=DB _) ⟨by rw [h],rfl⟩ rfl
 generalize hR:(fun (r:D) (h:List (Option (List C)))=>r=DB (codeOK c)∧h=[])=R at ret ⊢
 clear hR
 obtain ⟨vs,ar,l⟩:=c
 simp only at h1 h2 h3 hf
 simp only [hdC] at hhd hh2
 unfold codeOK at ret
 simp only at ret
 generalize hhb:headsOK vs ar=hb at *
 unfold cdC at hf hhd ⊢
 simp only at hf hhd ⊢
 cases hb with
 | false =>
  refine dcZ Tryz.func41 ?_
  simp only [go_sem]
  iterate 6 ((try (refine drvZ Tryz.func41 ?_;simp only [go_sem]));((with_reducible and_intros)<;>try exact sd);(try first | refine XK.p hhd ok50 ?_ | refine XK.gp hhd ok50 ?_ | refine XK.p hh2 ok97 ?_ | refine XK.gp hh2 ok97 ?_))
  exact ret _ _ (by simp)
 | true =>
  by_cases hl1:(l.length:Int)<1
  ·have g1:((l.length:Int)<1)=True:=eq_true hl1
   refine dcZ Tryz.func41 ?_
   simp only [go_sem,List.length_map,g1]
   iterate 6 ((try (refine drvZ Tryz.func41 ?_;simp only [go_sem,List.length_map,g1]));((with_reducible and_intros)<;>try exact sd);(try first | refine XK.p hhd ok50 ?_ | refine XK.gp hhd ok50 ?_ | refine XK.p hh2 ok97 ?_ | refine XK.gp hh2 ok97 ?_))
   refine ret _ _ ?_
   have hf0:decide (1≤(l.length:Int))=false:=by simp;omega
   simp [hf0]
  by_cases hl2:400<(l.length:Int)
  ·have g1:((l.length:Int)<1)=False:=eq_false hl1
   have g2:(400<(l.length:Int))=True:=eq_true hl2
   refine dcZ Tryz.func41 ?_
   simp only [go_sem,List.length_map,g1,g2]
   iterate 6 ((try (refine drvZ Tryz.func41 ?_;simp only [go_sem,List.length_map,g1,g2]));((with_reducible and_intros)<;>try exact sd);(try first | refine XK.p hhd ok50 ?_ | refine XK.gp hhd ok50 ?_ | refine XK.p hh2 ok97 ?_ | refine XK.gp hh2 ok97 ?_))
   refine ret _ _ ?_
   have hf0:decide ((l.length:Int)≤400)=false:=by simp;omega
   simp [hf0]
  have g1:((l.length:Int)<1)=False:=eq_false hl1
  have g2:(400<(l.length:Int))=False:=eq_false hl2
  have t1:decide (1≤(l.length:Int))=true:=by simp;omega
  have t2:decide ((l.length:Int)≤400)=true:=by simp;omega
  rw [t1,t2] at ret
  simp only [Bool.true_and] at ret
  refine dcZ Tryz.func41 ?_
  simp only [go_sem,List.length_map,g1,g2]
  iterate 6 ((try (refine drvZ Tryz.func41 ?_;simp only [go_sem,List.length_map,g1,g2]));((with_reducible and_intros)<;>try exact sd);(try first | refine XK.p hhd ok50 ?_ | refine XK.gp hhd ok50 ?_ | refine XK.p hh2 ok97 ?_ | refine XK.gp hh2 ok97 ?_))
  refine Go.loopQ (fun i : Nat => [(1, .c (.ptr 0 0)), (3, DI .i64 l.length), (4, DI .i64 i)]) (fun _ => [(0, some [isI vs, isI ar, .isl 5 (l.map inX)])])
   1024 (fun i=>i≤l.length∧∀ j:Nat,j<i→∀ x,l[j]? = some x→inOK vs.length ar.length l.length x=true) (fun i=>l.length - i) ?_ 0 some [] _ ⟨by omega,fun j hj=>by omega⟩ ?_
  ·rintro i ⟨hi,hI⟩ again
   rcases Nat.lt_or_ge i l.length with hlt | hge
   ·obtain ⟨x,hx⟩:∃ x,l[i]? = some x:=⟨l[i],by simp [hlt]⟩
    have hxl:(l.map inX)[i]? = some [I64 x.op,I64 x.a,I64 x.b,I64 x.c,I64 x.d]:=by rw [List.getElem?_map,hx];rfl
    have hfx:=hf x
    unfold inX at hfx
    have hmem:x ∈ l:=List.mem_of_getElem? hx
    cases hq:inOK vs.length ar.length l.length x with
    | true =>
     rw [hq] at hfx
     obtain ⟨op,xa,xb,xc,xd⟩:=x
     have hs:i+1≤l.length∧∀ j:Nat,j<i+1→∀ x,l[j]? = some x→inOK vs.length ar.length l.length x=true:=⟨hlt,fun j hj y hy=>by
      by_cases e:j=i
      ·subst e;rw [hx] at hy;cases hy;exact hq
      ·exact hI j (by omega) y hy⟩
     simp only at hxl hfx
     refine drvL Tryz.func41 ?_
     simp only [go_sem,List.length_map,hlt]
     iterate 6 ((try (refine drvZ Tryz.func41 ?_;simp only [go_sem,List.length_map,hlt,hxl]));((with_reducible and_intros)<;>try exact sd);(try first | refine XK.p hfx ok98 ?_ | refine XK.gp hfx ok98 ?_))
     refine again (i+1) some [] _ hs (by omega) ?_
     simp only [go_sem,TmOK,DM,DMs,CM,CMs,forall_eq,exists_eq_left,Mq,HpOK,LowOK]
     try simp
    | false =>
     rw [hq] at hfx
     have hall:l.all (inOK vs.length ar.length l.length)=false:=by
      cases hq2:l.all (inOK vs.length ar.length l.length) with
      | false=>rfl
      | true=>rw [List.all_eq_true] at hq2;rw [hq2 x hmem] at hq;cases hq
     obtain ⟨op,xa,xb,xc,xd⟩:=x
     simp only at hxl hfx
     refine drvL Tryz.func41 ?_
     simp only [go_sem,List.length_map,hlt]
     iterate 6 ((try (refine drvZ Tryz.func41 ?_;simp only [go_sem,List.length_map,hlt,hxl]));((with_reducible and_intros)<;>try exact sd);(try first | refine XK.p hfx ok98 ?_ | refine XK.gp hfx ok98 ?_))
     exact ret _ _ (by rw [hall];rfl)
   ·have hall:l.all (inOK vs.length ar.length l.length)=true:=by
     rw [List.all_eq_true]
     intro x hx
     obtain ⟨j,hj,rfl⟩:=List.getElem_of_mem hx
     exact hI j (by omega) _ (by simp [hj])
    rw [hall,Bool.true_and] at ret
    have hn:¬ i<l.length:=by omega
    obtain ⟨k,hk⟩:∃ k,l.length=k+1:=⟨l.length - 1,by omega⟩
    have hk1:(l.length:Int) - 1=(k:Int):=by omega
    have hkl:k<l.length:=by omega
    obtain ⟨x,hx⟩:∃ x,l[k]? = some x:=⟨l[k],by simp [hkl]⟩
    have hxl:(l.map inX)[k]? = some [I64 x.op,I64 x.a,I64 x.b,I64 x.c,I64 x.d]:=by rw [List.getElem?_map,hx];rfl
    have hen:endOK l=(x.op == 13 || x.op == 8):=by
     unfold endOK atC
     rw [hk,Nat.add_sub_cancel,List.getD_eq_getElem?_getD,hx];rfl
    rw [hen] at ret
    clear again
    obtain ⟨op,xa,xb,xc,xd⟩:=x
    simp only at hxl ret
    by_cases h13:op=13
    ·subst h13
     refine drvL Tryz.func41 ?_
     simp only [go_sem,List.length_map,hn]
     iterate 6 ((try (refine drvZ Tryz.func41 ?_;simp only [go_sem,List.length_map,hn,hk1,hkl,hxl]));((with_reducible and_intros)<;>try exact sd))
     exact ret _ _ (by simp)
    ·have e13:(op == 13)=false:=by simp [h13]
     refine drvL Tryz.func41 ?_
     simp only [go_sem,List.length_map,hn]
     iterate 6 ((try (refine drvZ Tryz.func41 ?_;simp only [go_sem,List.length_map,hn,hk1,hkl,hxl,e13]));((with_reducible and_intros)<;>try exact sd))
     exact ret _ _ (by simp [e13])
  ·simp only [go_sem,TmOK,DM,DMs,CM,CMs,forall_eq,exists_eq_left,Mq,HpOK,LowOK]
   try simp
   try exact fun a _=>rfl
theorem put_at : ∀ (ds A B : List C), ds.length ≤ B.length → putCells (A ++ B) A.length ds = A ++ ds ++ B.drop ds.length
 | [],A,B,_=>by simp [putCells]
 | d :: r,A,[],h=>by simp at h
 | d :: r,A,b :: B,h=>by
  have e:(A++b :: B).set A.length d=(A++[d])++B:=by
   rw [List.set_append_right _ _ (Nat.le_refl _)];simp
  have ih:=put_at r (A++[d]) B (by simpa using h)
  simp only [putCells,e]
  rw [show A.length+1=(A++[d]).length by simp,ih]
  simp
open CtL (In Cd kindsOf topOf fOK inOK endOK codeOK atC halt)
theorem shapeI0 (op:Int) (h:op<1∨13<op):DC Tryz.prog 136 [DI .i64 op] [] (fun r h=>r=DS ByteArray.empty∧h=[]):=by
 have hmx:=mx_eq
 have hw:=CtR.within op 1 13
 have hf:(decide (1≤op) && decide (op≤13))=false:=by rw [Bool.and_eq_false_iff];simp;omega
 rw [hf] at hw
 refine dcZ Tryz.func136 ?_
 simp only [go_sem]
 iterate 4 ((try (refine drvZ Tryz.func136 ?_;simp only [go_sem]));((with_reducible and_intros)<;>try exact sd);(try first | refine XK.p hw ok70 ?_ | refine XK.gp hw ok70 ?_))
 exact RetOb.plain (d:=DS _) ⟨rfl,rfl⟩ rfl
theorem fieldOkG (c : Cd) (h1 : c.vars.length ≤ mx) (h2 : c.arrays.length ≤ mx) (h3 : c.list.length ≤ mx) (k : Nat) (hk : k ≤ 6) (n : Int) :
 DC Tryz.prog 138 [.agg (cdC c),.c (.v (.int .u8 (ltr k).toNat)),DI .i64 n] [] (fun r h=>r=DB (fOK c.vars.length c.arrays.length c.list.length k n)∧h=[]):=by
 have hmx:=mx_eq
 have hw:=fun hi=>CtR.within n 0 hi
 have hw4:=CtR.within n 4 10
 obtain ⟨vs,ar,ls⟩:=c
 simp only at h1 h2 h3
 have ret:∀ (b:Bool) (hp:Hp),b=fOK vs.length ar.length ls.length k n→RetOb 0 (fun r h=>r=DB (fOK vs.length ar.length ls.length k n)∧h=[]) (DB b) hp:=fun b hp h=>RetOb.plain (d:=DB _) ⟨by rw [h],rfl⟩ rfl
 generalize hR:(fun (r:D) (h:List (Option (List C)))=>r=DB (fOK vs.length ar.length ls.length k n)∧h=[])=R at ret ⊢
 clear hR
 have key:k=0∨k=1∨k=2∨k=3∨k=4∨k=5∨k=6:=by omega
 unfold cdC
 rcases key with rfl | rfl | rfl | rfl | rfl | rfl | rfl
 ·rw [show (((ltr 0).toNat:Nat):Int)=45 from rfl]
  refine dcZ Tryz.func138 ?_
  simp only [go_sem]
  iterate 9 ((try (refine drvZ Tryz.func138 ?_;simp only [go_sem]));((with_reducible and_intros)<;>try exact sd))
  refine ret _ _ ?_
  rw [Bool.eq_iff_iff];simp [fOK,topOf];omega
 ·rw [show (((ltr 1).toNat:Nat):Int)=114 from rfl]
  have hw:=hw (13)
  generalize hB:(decide (0≤n) && decide (n≤13))=B at hw
  refine dcZ Tryz.func138 ?_
  simp only [go_sem]
  iterate 10 ((try (refine drvZ Tryz.func138 ?_;simp only [go_sem,Int.reduceLE,List.length_map]));((with_reducible and_intros)<;>try exact sd);(try first | refine XK.p hw ok70 ?_ | refine XK.gp hw ok70 ?_))
  exact ret _ _ (by rw [← hB];simp [fOK,topOf])
 ·rw [show (((ltr 2).toNat:Nat):Int)=110 from rfl]
  have hw:=hw (255)
  generalize hB:(decide (0≤n) && decide (n≤255))=B at hw
  refine dcZ Tryz.func138 ?_
  simp only [go_sem]
  iterate 10 ((try (refine drvZ Tryz.func138 ?_;simp only [go_sem,Int.reduceLE,List.length_map]));((with_reducible and_intros)<;>try exact sd);(try first | refine XK.p hw ok70 ?_ | refine XK.gp hw ok70 ?_))
  exact ret _ _ (by rw [← hB];simp [fOK,topOf])
 ·rw [show (((ltr 3).toNat:Nat):Int)=118 from rfl]
  have hw:=hw ((vs.length:Int) - 1)
  generalize hB:(decide (0≤n) && decide (n≤(vs.length:Int) - 1))=B at hw
  refine dcZ Tryz.func138 ?_
  simp only [go_sem]
  iterate 10 ((try (refine drvZ Tryz.func138 ?_;simp only [go_sem,Int.reduceLE,List.length_map]));((with_reducible and_intros)<;>try exact sd);(try first | refine XK.p hw ok70 ?_ | refine XK.gp hw ok70 ?_))
  exact ret _ _ (by rw [← hB];simp [fOK,topOf])
 ·rw [show (((ltr 4).toNat:Nat):Int)=97 from rfl]
  have hw:=hw ((ar.length:Int) - 1)
  generalize hB:(decide (0≤n) && decide (n≤(ar.length:Int) - 1))=B at hw
  refine dcZ Tryz.func138 ?_
  simp only [go_sem]
  iterate 10 ((try (refine drvZ Tryz.func138 ?_;simp only [go_sem,Int.reduceLE,List.length_map]));((with_reducible and_intros)<;>try exact sd);(try first | refine XK.p hw ok70 ?_ | refine XK.gp hw ok70 ?_))
  exact ret _ _ (by rw [← hB];simp [fOK,topOf])
 ·rw [show (((ltr 5).toNat:Nat):Int)=111 from rfl]
  have hw:=hw4
  generalize hB:(decide (4≤n) && decide (n≤10))=B at hw
  refine dcZ Tryz.func138 ?_
  simp only [go_sem]
  iterate 10 ((try (refine drvZ Tryz.func138 ?_;simp only [go_sem,Int.reduceLE,List.length_map]));((with_reducible and_intros)<;>try exact sd);(try first | refine XK.p hw ok70 ?_ | refine XK.gp hw ok70 ?_))
  exact ret _ _ (by rw [← hB];simp [fOK,topOf])
 ·rw [show (((ltr 6).toNat:Nat):Int)=105 from rfl]
  have hw:=hw ((ls.length:Int) - 1)
  generalize hB:(decide (0≤n) && decide (n≤(ls.length:Int) - 1))=B at hw
  refine dcZ Tryz.func138 ?_
  simp only [go_sem]
  iterate 10 ((try (refine drvZ Tryz.func138 ?_;simp only [go_sem,Int.reduceLE,List.length_map]));((with_reducible and_intros)<;>try exact sd);(try first | refine XK.p hw ok70 ?_ | refine XK.gp hw ok70 ?_))
  exact ret _ _ (by rw [← hB];simp [fOK,topOf])
theorem instrOkG (c : Cd) (h1 : c.vars.length ≤ mx) (h2 : c.arrays.length ≤ mx) (h3 : c.list.length ≤ mx) (x : In) :
 DC Tryz.prog 96 [.agg (cdC c),.agg (inX x)] [] (fun r h=>r=DB (inOK c.vars.length c.arrays.length c.list.length x)∧h=[]):=by
 have hmx:=mx_eq
 have hf:=fun k hk n=>fieldOkG c h1 h2 h3 k hk n
 have hfi:=fieldsI x
 have ret:∀ (b:Bool) (hp:Hp),b=inOK c.vars.length c.arrays.length c.list.length x→RetOb 0 (fun r h=>r=DB (inOK c.vars.length c.arrays.length c.list.length x)∧h=[]) (DB b) hp:=fun b hp h=>RetOb.plain (d:=DB _) ⟨by rw [h],rfl⟩ rfl
 generalize hR:(fun (r:D) (h:List (Option (List C)))=>r=DB (inOK c.vars.length c.arrays.length c.list.length x)∧h=[])=R at ret ⊢
 clear hR
 obtain ⟨op,a,b,c',d⟩:=x
 have hcx:cdC c=[isI c.vars,isI c.arrays,.isl 5 (c.list.map inX)]:=rfl
 have hlx:inX ⟨op,a,b,c',d⟩=[I64 op,I64 a,I64 b,I64 c',I64 d]:=rfl
 rw [hlx] at hfi ⊢
 simp only [hcx] at hf ⊢
 simp only at hfi
 generalize hLI:c.list.map inX=LI at *
 by_cases ho:op<1∨13<op
 ·have hsh:=shapeI0 op ho
  have hret:false=inOK c.vars.length c.arrays.length c.list.length ⟨op,a,b,c',d⟩:=by
   have hf0:(decide (1≤op) && decide (op≤13))=false:=by rw [Bool.and_eq_false_iff];simp;omega
   simp [inOK,hf0]
  have ret:=fun hp=>ret false hp hret
  have hse:(ByteArray.empty.toList == (ByteArray.toList { data:=#[] }))=true:=by simp [toList_nil]
  have hx0:([[I64 a],[I64 b],[I64 c'],[I64 d]]:List (List C))[0]? = some [I64 a]:=rfl
  refine dcZ Tryz.func96 ?_
  simp only [go_sem]
  iterate 5 ((try (refine drvZ Tryz.func96 ?_;simp only [go_sem]));((with_reducible and_intros)<;>try exact sd);(try first | refine XK.p hsh ok136 ?_ | refine XK.gp hsh ok136 ?_ | refine XK.p hfi ok137 ?_ | refine XK.gp hfi ok137 ?_))
  refine Go.loop ?_
  refine drvL Tryz.func96 ?_
  simp only [go_sem,hx0,hse]
  iterate 6 ((try (refine drvZ Tryz.func96 ?_;simp only [go_sem,hx0,hse]));((with_reducible and_intros)<;>try exact sd);(try first | refine XK.gs (DB false) ?_))
  exact ret _
 have o1:1≤op:=by omega
 have o2:op≤13:=by omega
 have hsh:=shapeI op ⟨o1,o2⟩
 have hin:inOK c.vars.length c.arrays.length c.list.length ⟨op,a,b,c',d⟩=(fOK c.vars.length c.arrays.length c.list.length ((kindsOf op).getD 0 0) a && fOK c.vars.length c.arrays.length c.list.length ((kindsOf op).getD 1 0) b && fOK c.vars.length c.arrays.length c.list.length ((kindsOf op).getD 2 0) c' && fOK c.vars.length c.arrays.length c.list.length ((kindsOf op).getD 3 0) d):=by
  unfold inOK
  rw [show decide (1≤op)=true by simp;omega,show decide (op≤13)=true by simp;omega]
  rfl
 rw [hin] at ret
 have retF:∀ (i:Nat) (hp:Hp),i<4→fOK c.vars.length c.arrays.length c.list.length ((kindsOf op).getD i 0) ([a,b,c',d].getD i 0)=false→RetOb 0 R (DB false) hp:=fun i hp hi h=>by
  refine ret _ _ ?_
  have:i=0∨i=1∨i=2∨i=3:=by omega
  rcases this with rfl | rfl | rfl | rfl
  ·rw [show fOK c.vars.length c.arrays.length c.list.length ((kindsOf op).getD 0 0) a=false from h];simp only [Bool.and_false,Bool.false_and]
  ·rw [show fOK c.vars.length c.arrays.length c.list.length ((kindsOf op).getD 1 0) b=false from h];simp only [Bool.and_false,Bool.false_and]
  ·rw [show fOK c.vars.length c.arrays.length c.list.length ((kindsOf op).getD 2 0) c'=false from h];simp only [Bool.and_false,Bool.false_and]
  ·rw [show fOK c.vars.length c.arrays.length c.list.length ((kindsOf op).getD 3 0) d=false from h];simp only [Bool.and_false]
 have retT:∀ (hp:Hp),(∀ i:Nat,i<4→fOK c.vars.length c.arrays.length c.list.length ((kindsOf op).getD i 0) ([a,b,c',d].getD i 0)=true)→RetOb 0 R (DB true) hp:=fun hp h=>by
  refine ret _ _ ?_
  rw [show fOK c.vars.length c.arrays.length c.list.length ((kindsOf op).getD 0 0) a=true from h 0 (by omega),show fOK c.vars.length c.arrays.length c.list.length ((kindsOf op).getD 1 0) b=true from h 1 (by omega),show fOK c.vars.length c.arrays.length c.list.length ((kindsOf op).getD 2 0) c'=true from h 2 (by omega),show fOK c.vars.length c.arrays.length c.list.length ((kindsOf op).getD 3 0) d=true from h 3 (by omega)];rfl
 clear ret hin
 have hsz:(shp op).size=4:=rfl
 have hse:((shp op).toList == (ByteArray.toList { data:=#[] }))=false:=shp_ne op ⟨o1,o2⟩
 refine dcZ Tryz.func96 ?_
 simp only [go_sem]
 iterate 5 ((try (refine drvZ Tryz.func96 ?_;simp only [go_sem]));((with_reducible and_intros)<;>try exact sd);(try first | refine XK.p hsh ok136 ?_ | refine XK.gp hsh ok136 ?_ | refine XK.p hfi ok137 ?_ | refine XK.gp hfi ok137 ?_))
 refine Go.loopQ (fun i : Nat => [(2, .c (.ptr 0 0)), (5, DS (shp op)), (12, .c (.isl 1 [[I64 a], [I64 b], [I64 c'], [I64 d]])), (13, DI .i64 4), (14, DI .i64 i)]) (fun _ => [(0, some [isI c.vars, isI c.arrays, .isl 5 LI])])
  4096 (fun i=>i≤4∧∀ j:Nat,j<i→fOK c.vars.length c.arrays.length c.list.length ((kindsOf op).getD j 0) ([a,b,c',d].getD j 0)=true) (fun i=>4 - i) ?_ 0 some [] _ ⟨by omega,fun j hj=>by omega⟩ ?_
 ·rintro i ⟨hi,hI⟩ again
  rcases Nat.lt_or_ge i 4 with hlt | hge
  ·have hx:[[I64 a],[I64 b],[I64 c'],[I64 d]][i]? = some [I64 ([a,b,c',d].getD i 0)]:=by
    have:i=0∨i=1∨i=2∨i=3:=by omega
    rcases this with rfl | rfl | rfl | rfl<;>rfl
   have hc:=hf _ (kinds_le op i) ([a,b,c',d].getD i 0)
   have hat:=shp_at op i hlt
   have hlt':(i:Int)<4:=by omega
   have retF:=fun hp=>retF i hp hlt
   have hst:∀ q:fOK c.vars.length c.arrays.length c.list.length ((kindsOf op).getD i 0) ([a,b,c',d].getD i 0)=true,i+1≤4∧∀ j:Nat,j<i+1→fOK c.vars.length c.arrays.length c.list.length ((kindsOf op).getD j 0) ([a,b,c',d].getD j 0)=true:=fun q=>⟨hlt,fun j hj=>by
    by_cases e:j=i
    ·subst e;exact q
    ·exact hI j (by omega)⟩
   generalize [a,b,c',d].getD i 0=n at *
   generalize (kindsOf op).getD i 0=k at *
   generalize [[I64 a],[I64 b],[I64 c'],[I64 d]]=fl at *
   generalize shp op=sp at *
   cases hq:fOK c.vars.length c.arrays.length c.list.length k n with
   | true =>
    rw [hq] at hc
    have hs:=hst hq
    refine drvL Tryz.func96 ?_
    simp only [go_sem,hlt']
    iterate 5 ((try (refine drvZ Tryz.func96 ?_;simp only [go_sem,hx,hlt',hat,hsz,hse]));((with_reducible and_intros)<;>try exact sd);(try first | refine XK.p hc ok138 ?_ | refine XK.gp hc ok138 ?_))
    refine again (i+1) some [] _ hs (by omega) ?_
    simp only [go_sem,TmOK,DM,DMs,CM,CMs,forall_eq,exists_eq_left,Mq,HpOK,LowOK]
    try simp
   | false =>
    rw [hq] at hc
    refine drvL Tryz.func96 ?_
    simp only [go_sem,hlt']
    iterate 5 ((try (refine drvZ Tryz.func96 ?_;simp only [go_sem,hx,hlt',hat,hsz,hse]));((with_reducible and_intros)<;>try exact sd);(try first | refine XK.p hc ok138 ?_ | refine XK.gp hc ok138 ?_))
    exact retF _ hq
  ·obtain rfl:i=4:=by omega
   have h44:(((4:Nat):Int)<4)=False:=eq_false (by decide)
   refine drvL Tryz.func96 ?_
   simp only [go_sem,h44]
   iterate 3 ((try (refine drvZ Tryz.func96 ?_;simp only [go_sem,h44]));((with_reducible and_intros)<;>try exact sd))
   exact retT _ hI
 ·simp only [go_sem,TmOK,DM,DMs,CM,CMs,forall_eq,exists_eq_left,Mq,HpOK,LowOK]
  simp
  try exact fun a _=>rfl
open CtL (In Cd kindsOf topOf fOK inOK endOK codeOK atC halt runC)
theorem cvFnG (c : Cd) (h1 : c.vars.length ≤ mx) (h2 : c.arrays.length ≤ mx) (h3 : c.list.length ≤ mx) (x : In) :
 DC Tryz.prog 95 [.agg (inX x),.c (.eptr (cdC c))] [] (fun r h=>r=DB (!inOK c.vars.length c.arrays.length c.list.length x)∧h=[]):=by
 have hio:=instrOkG c h1 h2 h3 x
 generalize inOK c.vars.length c.arrays.length c.list.length x=B at *
 unfold cdC at hio ⊢
 obtain ⟨op,a,b,c',d⟩:=x
 unfold inX at hio ⊢
 refine dcZ Tryz.func95 ?_
 simp only [go_sem]
 iterate 4 ((try (refine drvZ Tryz.func95 ?_;simp only [go_sem]));((with_reducible and_intros)<;>try exact sd);(try first | refine XK.p hio ok96 ?_ | refine XK.gp hio ok96 ?_))
 exact RetOb.plain (d:=DB (!B)) ⟨rfl,rfl⟩ rfl
def ixB (p : In → Bool) : List In → Int → Int
 | [],_ => -1
 | x :: r,n=>if p x then ixB p r (n+1) else n
theorem ixB_all (p : In → Bool) : ∀ (l : List In) (n : Int), 0 ≤ n → decide (0 ≤ ixB p l n) = !l.all p
 | [],n,h=>rfl
 | x :: r,n,h=>by
  cases hx:p x with
  | true=>simp only [ixB,hx,if_true,List.all_cons,Bool.true_and];exact ixB_all p r (n+1) (by omega)
  | false=>simp [ixB,hx,h]
theorem indexFuncG (cc : List C) (p : In → Bool) (xs : List In) (hl : xs.length ≤ mx) (hg : ∀ x, DC Tryz.prog 95 [.agg (inX x), .c (.eptr cc)] [] (fun r h => r = DB (!p x) ∧ h = [])) :
 DC Tryz.prog 127 [.c (.isl 5 (xs.map inX)),.c (.clo 95 [.eptr cc])] [] (fun d h=>d=DI .i64 (ixB p xs 0)∧h=[]):=by
 have hmx:=mx_eq
 have ret:∀ (v:Int) (hp:Hp),v=ixB p xs 0→RetOb 0 (fun d h=>d=DI .i64 (ixB p xs 0)∧h=[]) (DI .i64 v) hp:=fun v hp h=>RetOb.plain (d:=DI .i64 _) ⟨by rw [h],rfl⟩ rfl
 generalize hR:(fun (d:D) (h:List (Option (List C)))=>d=DI .i64 (ixB p xs 0)∧h=[])=R at ret ⊢
 clear hR
 refine dcZ Tryz.func127 ?_
 simp only [go_sem]
 ((try (refine drvZ Tryz.func127 ?_;simp only [go_sem]));((with_reducible and_intros)<;>try exact sd))
 refine Go.loopQ (fun i:Nat=>[(0,.c (.isl 5 (xs.map inX))),(1,.c (.clo 95 [.eptr cc])),(7,DI .i64 xs.length),(8,DI .i64 i)]) (fun _=>[]) 1024 (fun i=>i≤xs.length∧ixB p (xs.drop i) i=ixB p xs 0) (fun i=>xs.length - i) ?_ 0 some [] _ ⟨Nat.zero_le _,rfl⟩ ?_
 ·rintro i ⟨hi,hI⟩ again
  rcases Nat.lt_or_ge i xs.length with hlt | hge
  ·obtain ⟨x,hx⟩:∃ x,xs[i]? = some x:=⟨xs[i],by simp [hlt]⟩
   have hgx:=hg x
   rw [List.drop_eq_getElem_cons hlt,(List.getElem?_eq_some_iff.1 hx).2] at hI
   cases hpx:p x with
   | true =>
    rw [hpx] at hgx
    simp only [ixB,hpx,if_true] at hI
    obtain ⟨op,a,b,c,d⟩:=x
    simp only [inX] at hgx
    refine drvL Tryz.func127 ?_
    simp only [go_sem,hx,hlt,inX]
    iterate 5 ((try (refine drvZ Tryz.func127 ?_;simp only [go_sem,hx,hlt,inX]));((with_reducible and_intros)<;>try exact sd);(try first | refine XK.p hgx ok95 ?_ | refine XK.gp hgx ok95 ?_))
    refine again (i+1) some [] _ ⟨hlt,by rw [← hI];rfl⟩ (by omega) ?_
    simp only [go_sem,TmOK,DM,DMs,CM,CMs,forall_eq,exists_eq_left,Mq,HpOK,LowOK]
    first | done | (simp;done) | (simp;exact CM.kf rfl) | exact CM.kf rfl
   | false =>
    rw [hpx] at hgx
    simp only [ixB,hpx] at hI
    obtain ⟨op,a,b,c,d⟩:=x
    simp only [inX] at hgx
    refine drvL Tryz.func127 ?_
    simp only [go_sem,hx,hlt,inX]
    iterate 5 ((try (refine drvZ Tryz.func127 ?_;simp only [go_sem,hx,hlt,inX]));((with_reducible and_intros)<;>try exact sd);(try first | refine XK.p hgx ok95 ?_ | refine XK.gp hgx ok95 ?_))
    exact ret _ _ (by rw [← hI];rfl)
  ·have hn:¬ i<xs.length:=by omega
   have e1:xs.drop i=[]:=List.drop_of_length_le (by omega)
   refine drvL Tryz.func127 ?_
   simp only [go_sem,hn]
   iterate 3 ((try (refine drvZ Tryz.func127 ?_;simp only [go_sem,hn]));((with_reducible and_intros)<;>try exact sd))
   exact ret _ _ (by rw [← hI,e1];rfl)
 ·simp only [go_sem,TmOK,DM,DMs,CM,CMs,forall_eq,exists_eq_left,Mq,HpOK,LowOK]
  first | done | (simp;done) | (simp;exact CM.kf rfl) | exact CM.kf rfl
theorem containsFuncG (cc : List C) (p : In → Bool) (xs : List In) (hl : xs.length ≤ mx) (hg : ∀ x, DC Tryz.prog 95 [.agg (inX x), .c (.eptr cc)] [] (fun r h => r = DB (!p x) ∧ h = [])) :
 DC Tryz.prog 83 [.c (.isl 5 (xs.map inX)),.c (.clo 95 [.eptr cc])] [] (fun d h=>d=DB (!xs.all p)∧h=[]):=by
 have hif:=indexFuncG cc p xs hl hg
 have hal:=ixB_all p xs 0 (by omega)
 generalize ixB p xs 0=k at *
 refine dcZ Tryz.func83 ?_
 simp only [go_sem]
 iterate 3 ((try (refine drvZ Tryz.func83 ?_;simp only [go_sem]));((with_reducible and_intros)<;>try exact sd);(try first | refine XK.p hif ok127 ?_ | refine XK.gp hif ok127 ?_))
 exact RetOb.plain (d:=DB _) ⟨by rw [← hal],rfl⟩ rfl
theorem codeValidG0 (c:Cd) (h1:c.vars.length≤2000000) (h2:c.arrays.length≤2000000) (h3:c.list.length≤100000000) (h:codeOK c=false):DC Tryz.prog 35 [.agg (cdC c)] [] (fun r h=>r=DB false∧h=[]):=by
 have hmx:=mx_eq
 have hfn:=fun x=>cvFnG c (by omega) (by omega) (by omega) x
 have ret:∀ hp:Hp,RetOb 0 (fun r h=>r=DB false∧h=[]) (DB false) hp:=fun hp=>RetOb.plain (d:=DB false) ⟨rfl,rfl⟩ rfl
 generalize hR:(fun (r:D) (h:List (Option (List C)))=>r=DB false∧h=[])=R at ret ⊢
 clear hR
 obtain ⟨vs,ar,l⟩:=c
 simp only at h1 h2 h3 hfn
 have hcf:=containsFuncG (cdC ⟨vs,ar,l⟩) (inOK vs.length ar.length l.length) l (by omega) hfn
 have hde:=declared vs ar (by omega) (by omega)
 have hw:=CtR.within l.length 1 400
 unfold codeOK at h
 simp only at h
 unfold cdC at hcf ⊢
 cases hh:headsOK vs ar with
 | false =>
  rw [hh] at hde
  clear hw hcf
  refine dcZ Tryz.func35 ?_
  simp only [go_sem]
  iterate 8 ((try (refine drvZ Tryz.func35 ?_;simp only [go_sem,List.length_map]));((with_reducible and_intros)<;>try exact sd);(try first | refine XK.p hde ok94 ?_ | refine XK.gp hde ok94 ?_ | refine XK.gs (DB false) ?_))
  exact ret _
 | true =>
  rw [hh] at hde h
  simp only [Bool.true_and] at h
  cases hb:(decide (1≤(l.length:Int)) && decide ((l.length:Int)≤400)) with
  | false =>
   rw [hb] at hw
   clear hcf
   refine dcZ Tryz.func35 ?_
   simp only [go_sem]
   iterate 8 ((try (refine drvZ Tryz.func35 ?_;simp only [go_sem,List.length_map]));((with_reducible and_intros)<;>try exact sd);(try first | refine XK.p hde ok94 ?_ | refine XK.gp hde ok94 ?_ | refine XK.p hw ok70 ?_ | refine XK.gp hw ok70 ?_ | refine XK.gs (DB false) ?_))
   exact ret _
  | true =>
   rw [hb] at hw h
   simp only [Bool.true_and] at h
   simp only [Bool.and_eq_true,decide_eq_true_eq] at hb
   obtain ⟨x,hx⟩:∃ x,l[l.length - 1]? = some x:=⟨l[l.length - 1]'(by omega),by simp⟩
   have hat:atC l (l.length - 1)=x:=by simp [atC,List.getD,hx]
   simp only [endOK,hat] at h
   have hpos:((l.length:Int) - 1).toNat=l.length - 1:=by omega
   have hget:(l.map inX)[l.length - 1]? = some (inX x):=by rw [List.getElem?_map,hx];rfl
   generalize hal:l.all (inOK vs.length ar.length l.length)=al at *
   obtain ⟨op,xa,xb,xc,xd⟩:=x
   simp only at h
   refine dcZ Tryz.func35 ?_
   simp only [go_sem]
   iterate 6 ((try (refine drvZ Tryz.func35 ?_;simp only [go_sem,List.length_map]));((with_reducible and_intros)<;>try exact sd);(try first | refine XK.p hde ok94 ?_ | refine XK.gp hde ok94 ?_ | refine XK.p hw ok70 ?_ | refine XK.gp hw ok70 ?_))
   refine XK.subQ (r := some) (fz := [0]) (tl := [(1, .c (.eptr [isI vs, isI ar, .isl 5 (l.map inX)])), (2, DB false), (17, DB false), (19, .when true (.c (.isl 5 (l.map inX)))), (20, .when true (.c (.clo 95 [.eptr [isI vs, isI ar, .isl 5 (l.map inX)]])))])
    (hl:=[]) ?_ ?_
   ·simp only [go_sem,TmOK,DM,DMs,CM,CMs,forall_eq,exists_eq_left,Mq,HpOK,LowOK]
    simp
   cases al with
   | false =>
    iterate 9 ((try (refine drvZ Tryz.func35 ?_;simp only [go_sem,List.length_map]));((with_reducible and_intros)<;>try exact sd);(try first | refine XK.p hcf ok83 ?_ | refine XK.gp hcf ok83 ?_))
    exact ret _
   | true =>
    simp only [Bool.true_and,Bool.or_eq_false_iff] at h
    have e1:=h.1
    have e2:=h.2
    iterate 9 ((try (refine drvZ Tryz.func35 ?_;simp only [go_sem,List.length_map,hpos,hget,inX,e1,e2]));((with_reducible and_intros)<;>try exact sd);(try first | refine XK.p hcf ok83 ?_ | refine XK.gp hcf ok83 ?_))
    exact ret _
theorem startI0 (c:Cd) (m:Mm) (h1:c.vars.length≤2000000) (h2:c.arrays.length≤2000000) (h3:c.list.length≤100000000) (h:codeOK c=false):DC Tryz.prog 55 [.agg (cdC c),.agg m.cells] [] (fun r h=>r = .tup [.agg [I64 0,.v (.slice none 0 0),.v (.slice none 0 0),.v (.slice none 0 0)],DB false]∧h=[]):=by
 have hmx:=mx_eq
 have hcv:=codeValidG0 c h1 h2 h3 h
 obtain ⟨vs,ar,l⟩:=c
 obtain ⟨va,arr⟩:=m
 simp only [cdC,ints] at hcv ⊢
 refine dcZ Tryz.func55 ?_
 simp only [go_sem,Mm.cells]
 iterate 6 ((try (refine drvZ Tryz.func55 ?_;simp only [go_sem,Mm.cells]));((with_reducible and_intros)<;>try exact sd);(try first | refine XK.p hcv ok35 ?_ | refine XK.gp hcv ok35 ?_ | refine XK.gs (DB false) ?_))
 refine RetOb.ofQ (fun _=>none) [] (.tup [.agg [I64 0,.v (.slice none 0 0),.v (.slice none 0 0),.v (.slice none 0 0)],DB false]) [] ?_ ⟨rfl,rfl⟩ (by simp)
 simp [enumL,DM,DMs,CM,CMs,HpOK,LowOK]
theorem ranI0 (c:Cd) (m:Mm) (h1:c.vars.length≤2000000) (h2:c.arrays.length≤2000000) (h3:c.list.length≤100000000) (h:codeOK c=false):DC Tryz.prog 68 [.agg (cdC c),.agg m.cells] [] (fun r h=>r = .tup [.c (.v (.pointer none)),.c (.v (.slice none 0 0)),DB false]∧h=[]):=by
 have hmx:=mx_eq
 have hst:=startI0 c m h1 h2 h3 h
 obtain ⟨vs,ar,l⟩:=c
 obtain ⟨va,arr⟩:=m
 simp only [cdC,ints] at hst ⊢
 refine dcZ Tryz.func68 ?_
 simp only [go_sem,Mm.cells]
 iterate 5 ((try (refine drvZ Tryz.func68 ?_;simp only [go_sem,Mm.cells]));((with_reducible and_intros)<;>try exact sd);(try first | refine XK.p hst ok55 ?_ | refine XK.gp hst ok55 ?_))
 refine RetOb.ofQ (fun _=>none) [] (.tup [.c (.v (.pointer none)),.c (.v (.slice none 0 0)),DB false]) [] ?_ ⟨rfl,rfl⟩ (by simp)
 simp [enumL,DM,DMs,CM,CMs,HpOK,LowOK]
theorem runCodeG (c:Cd) (m:Mm) (h1:c.vars.length≤2000000) (h2:c.arrays.length≤2000000) (h3:c.list.length≤100000000):DC Tryz.prog 19 [.agg (cdC c),.agg m.cells] [] (fun r h=>r = .tup [.agg (runC c m).1.cells,.c (trD (runC c m).2.1),DB (runC c m).2.2]∧h=[]):=by
 cases hco:codeOK c with
 | true=>exact runCodeI c m hco
 | false =>
  have hmx:=mx_eq
  have hrn:=ranI0 c m h1 h2 h3 hco
  have hrf:runC c m=(⟨[],[]⟩,[],false):=by unfold runC;rw [hco];rfl
  generalize hR:(fun (r:D) (h:List (Option (List C)))=>r = .tup [.agg (runC c m).1.cells,.c (trD (runC c m).2.1),DB (runC c m).2.2]∧h=[])=R
  obtain ⟨vs,ar,l⟩:=c
  obtain ⟨va,arr⟩:=m
  simp only [cdC,ints] at hrn ⊢
  refine dcZ Tryz.func19 ?_
  simp only [go_sem,Mm.cells]
  iterate 6 ((try (refine drvZ Tryz.func19 ?_;simp only [go_sem,Mm.cells]));((with_reducible and_intros)<;>try exact sd);(try first | refine XK.p hrn ok68 ?_ | refine XK.gp hrn ok68 ?_))
  refine RetOb.noRun ?_ (.inl rfl)
  subst hR
  rw [hrf]
  exact ⟨rfl,rfl⟩
open CtL (In Cd)
theorem inC_split {l:List In} {i:Nat} {x:In} (h:l[i]? = some x):inC l=inC (l.take i)++inX x++inC (l.drop (i+1)):=by
 have hi:i<l.length:=(List.getElem?_eq_some_iff.1 h).1
 have hx:l[i]=x:=(List.getElem?_eq_some_iff.1 h).2
 conv=>lhs;rw [← List.take_append_drop i l,List.drop_eq_getElem_cons hi,hx]
 rw [inC_app,inC_cons]
 simp
theorem inC_setAt {l:List In} {i:Nat} {x:In} (h:l[i]? = some x) (y:In):inC (l.set i y)=inC (l.take i)++inX y++inC (l.drop (i+1)):=by
 have hi:i<l.length:=(List.getElem?_eq_some_iff.1 h).1
 have h2:(l.set i y)[i]? = some y:=List.getElem?_set_self hi
 rw [inC_split h2,List.take_set_of_le (Nat.le_refl _),List.drop_set_of_lt (by omega)]
theorem inC_put {l:List In} {i:Nat} {x:In} (h:l[i]? = some x) (y:In):putCells (inC l) (i * 5) (inX y)=inC (l.set i y):=by
 have hi:i<l.length:=(List.getElem?_eq_some_iff.1 h).1
 have hlen:(inC (l.take i)).length=i * 5:=by rw [inC_len,List.length_take,Nat.min_eq_left (by omega)]
 rw [inC_split h,inC_setAt h,← hlen,List.append_assoc,put_at _ _ _ (by simp [inX])]
 simp [inX]
end Go.Proofs.YtbknljofedfpjaaGreat.CtD
