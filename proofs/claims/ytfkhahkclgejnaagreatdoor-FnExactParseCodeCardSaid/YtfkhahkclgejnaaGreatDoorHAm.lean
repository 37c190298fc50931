/- Contracts of functions of the program, one behind the other, as plain data: what each call returns and which blocks it leaves. -/
import Derived.Lib.AppendIntMem
import Derived.Lib.LaidTab
import Derived.Test.YtfkhahkclgejnaaGreatDoorHFacts
import Derived.Test.YtfkhahkclgejnaaGreatDoorHAj
import Derived.Test.YtfkhahkclgejnaaGreatDoorHAk
import Derived.Test.YtfkhahkclgejnaaGreatDoorHAl
import Derived.Test.YtfkhahkclgejnaaGreatDoorHXb
set_option linter.unusedVariables false
set_option linter.unusedSimpArgs false
set_option linter.unusedSectionVars false
set_option maxHeartbeats 16000000
set_option maxRecDepth 100000
namespace Go.Proofs.YtfkhahkclgejnaaGreatDoor.CtD
open Go Go.CT CtF CtR
variable [Yn]
open CtL (In Cd kindsOf topOf fOK inOK endOK codeOK atC halt)
theorem shapeI0 (op:Int) (h:op<1∨13<op):DC Tryz.prog 70 [DI .i64 op] [] (fun r h=>r=DS ByteArray.empty∧h=[]):=by
 have hmx:=mx_eq
 have hw:=CtR.within op 1 13
 have hf:(decide (1≤op) && decide (op≤13))=false:=by rw [Bool.and_eq_false_iff];simp;omega
 rw [hf] at hw
 refine dcZ Tryz.func70 ?_
 simp only [go_sem]
 iterate 4 ((try (refine drvZ Tryz.func70 ?_;simp only [go_sem]));((with_reducible and_intros)<;>try exact sd);(try first | refine XK.p hw ok39 ?_ | refine XK.gp hw ok39 ?_))
 exact RetOb.plain (d:=DS _) ⟨rfl,rfl⟩ rfl
theorem fieldOkG (c : Cd) (h1 : c.vars.length ≤ mx) (h2 : c.arrays.length ≤ mx) (h3 : c.list.length ≤ mx) (k : Nat) (hk : k ≤ 6) (n : Int) :
 DC Tryz.prog 72 [.agg (cdC c),.c (.v (.int .u8 (ltr k).toNat)),DI .i64 n] [] (fun r h=>r=DB (fOK c.vars.length c.arrays.length c.list.length k n)∧h=[]):=by
 have hmx:=mx_eq
 have hw:=fun hi=>CtR.within n 0 hi
 have hw4:=CtR.within n 4 10
 obtain ⟨vs,ar,ls⟩:=c
 simp only at h1 h2 h3
 have ret:∀ (b:Bool) (hp:Hp),b=fOK vs.length ar.length ls.length k n→RetOb 0 (fun r h=>r=DB (fOK vs.length ar.length ls.length k n)∧h=[]) (DB b) hp:=fun b hp h=>RetOb.plain (d:=DB _) ⟨by rw [h],rfl⟩ rfl
 generalize hR:(fun (r:D) (h:List (Option (List C)))=>r=DB (fOK vs.length ar.length ls.length k n)∧h=[])=R at ret ⊢
 clear hR
 have key:k=0∨k=1∨k=2∨k=3∨k=4∨k=5∨k=6:=by omega
 unfold cdC
 rcases key with rfl | rfl | rfl | rfl | rfl | rfl | rfl
 ·rw [show (((ltr 0).toNat:Nat):Int)=45 from rfl]
  refine dcZ Tryz.func72 ?_
  simp only [go_sem]
  iterate 9 ((try (refine drvZ Tryz.func72 ?_;simp only [go_sem]));((with_reducible and_intros)<;>try exact sd))
  refine ret _ _ ?_
  rw [Bool.eq_iff_iff];simp [fOK,topOf];omega
 ·rw [show (((ltr 1).toNat:Nat):Int)=114 from rfl]
  have hw:=hw (13)
  generalize hB:(decide (0≤n) && decide (n≤13))=B at hw
  refine dcZ Tryz.func72 ?_
  simp only [go_sem]
  iterate 10 ((try (refine drvZ Tryz.func72 ?_;simp only [go_sem,Int.reduceLE,List.length_map]));((with_reducible and_intros)<;>try exact sd);(try first | refine XK.p hw ok39 ?_ | refine XK.gp hw ok39 ?_))
  exact ret _ _ (by rw [← hB];simp [fOK,topOf])
 ·rw [show (((ltr 2).toNat:Nat):Int)=110 from rfl]
  have hw:=hw (255)
  generalize hB:(decide (0≤n) && decide (n≤255))=B at hw
  refine dcZ Tryz.func72 ?_
  simp only [go_sem]
  iterate 10 ((try (refine drvZ Tryz.func72 ?_;simp only [go_sem,Int.reduceLE,List.length_map]));((with_reducible and_intros)<;>try exact sd);(try first | refine XK.p hw ok39 ?_ | refine XK.gp hw ok39 ?_))
  exact ret _ _ (by rw [← hB];simp [fOK,topOf])
 ·rw [show (((ltr 3).toNat:Nat):Int)=118 from rfl]
  have hw:=hw ((vs.length:Int) - 1)
  generalize hB:(decide (0≤n) && decide (n≤(vs.length:Int) - 1))=B at hw
  refine dcZ Tryz.func72 ?_
  simp only [go_sem]
  iterate 10 ((try (refine drvZ Tryz.func72 ?_;simp only [go_sem,Int.reduceLE,List.length_map]));((with_reducible and_intros)<;>try exact sd);(try first | refine XK.p hw ok39 ?_ | refine XK.gp hw ok39 ?_))
  exact ret _ _ (by rw [← hB];simp [fOK,topOf])
 ·rw [show (((ltr 4).toNat:Nat):Int)=97 from rfl]
  have hw:=hw ((ar.length:Int) - 1)
  generalize hB:(decide (0≤n) && decide (n≤(ar.length:Int) - 1))=B at hw
  refine dcZ Tryz.func72 ?_
  simp only [go_sem]
  iterate 10 ((try (refine drvZ Tryz.func72 ?_;simp only [go_sem,Int.reduceLE,List.length_map]));((with_reducible and_intros)<;>try exact sd);(try first | refine XK.p hw ok39 ?_ | refine XK.gp hw ok39 ?_))
  exact ret _ _ (by rw [← hB];simp [fOK,topOf])
 ·rw [show (((ltr 5).toNat:Nat):Int)=111 from rfl]
  have hw:=hw4
  generalize hB:(decide (4≤n) && decide (n≤10))=B at hw
  refine dcZ Tryz.func72 ?_
  simp only [go_sem]
  iterate 10 ((try (refine drvZ Tryz.func72 ?_;simp only [go_sem,Int.reduceLE,List.length_map]));((with_reducible and_intros)<;>try exact sd);(try first | refine XK.p hw ok39 ?_ | refine XK.gp hw ok39 ?_))
  exact ret _ _ (by rw [← hB];simp [fOK,topOf])
 ·rw [show (((ltr 6).toNat:Nat):Int)=105 from rfl]
  have hw:=hw ((ls.length:Int) - 1)
  generalize hB:(decide (0≤n) && decide (n≤(ls.length:Int) - 1))=B at hw
  refine dcZ Tryz.func72 ?_
  simp only [go_sem]
  iterate 10 ((try (refine drvZ Tryz.func72 ?_;simp only [go_sem,Int.reduceLE,List.length_map]));((with_reducible and_intros)<;>try exact sd);(try first | refine XK.p hw ok39 ?_ | refine XK.gp hw ok39 ?_))
  exact ret _ _ (by rw [← hB];simp [fOK,topOf])
theorem instrOkG (c : Cd) (h1 : c.vars.length ≤ mx) (h2 : c.arrays.length ≤ mx) (h3 : c.list.length ≤ mx) (x : In) :
 DC Tryz.prog 42 [.agg (cdC c),.agg (inX x)] [] (fun r h=>r=DB (inOK c.vars.length c.arrays.length c.list.length x)∧h=[]):=by
 have hmx:=mx_eq
 have hf:=fun k hk n=>fieldOkG c h1 h2 h3 k hk n
 have hfi:=fieldsI x
 have ret:∀ (b:Bool) (hp:Hp),b=inOK c.vars.length c.arrays.length c.list.length x→RetOb 0 (fun r h=>r=DB (inOK c.vars.length c.arrays.length c.list.length x)∧h=[]) (DB b) hp:=fun b hp h=>RetOb.plain (d:=DB _) ⟨by rw [h],rfl⟩ rfl
 generalize hR:(fun (r:D) (h:List (Option (List C)))=>r=DB (inOK c.vars.length c.arrays.length c.list.length x)∧h=[])=R at ret ⊢
 clear hR
 obtain ⟨op,a,b,c',d⟩:=x
 have hcx:cdC c=[isI c.vars,isI c.arrays,.isl 5 (c.list.map inX)]:=rfl
 have hlx:inX ⟨op,a,b,c',d⟩=[I64 op,I64 a,I64 b,I64 c',I64 d]:=rfl
 rw [hlx] at hfi ⊢
 simp only [hcx] at hf ⊢
 simp only at hfi
 generalize hLI:c.list.map inX=LI at *
 by_cases ho:op<1∨13<op
 ·have hsh:=shapeI0 op ho
  have hret:false=inOK c.vars.length c.arrays.length c.list.length ⟨op,a,b,c',d⟩:=by
   have hf0:(decide (1≤op) && decide (op≤13))=false:=by rw [Bool.and_eq_false_iff];simp;omega
   simp [inOK,hf0]
  have ret:=fun hp=>ret false hp hret
  have hse:(ByteArray.empty.toList == (ByteArray.toList { data:=#[] }))=true:=by simp [toList_nil]
  have hx0:([[I64 a],[I64 b],[I64 c'],[I64 d]]:List (List C))[0]? = some [I64 a]:=rfl
  refine dcZ Tryz.func42 ?_
  simp only [go_sem]
  iterate 5 ((try (refine drvZ Tryz.func42 ?_;simp only [go_sem]));((with_reducible and_intros)<;>try exact sd);(try first | refine XK.p hsh ok70 ?_ | refine XK.gp hsh ok70 ?_ | refine XK.p hfi ok71 ?_ | refine XK.gp hfi ok71 ?_))
  refine Go.loop ?_
  refine drvL Tryz.func42 ?_
  simp only [go_sem,hx0,hse]
  iterate 6 ((try (refine drvZ Tryz.func42 ?_;simp only [go_sem,hx0,hse]));((with_reducible and_intros)<;>try exact sd);(try first | refine XK.gs (DB false) ?_))
  exact ret _
 have o1:1≤op:=by omega
 have o2:op≤13:=by omega
 have hsh:=shapeI op ⟨o1,o2⟩
 have hin:inOK c.vars.length c.arrays.length c.list.length ⟨op,a,b,c',d⟩=(fOK c.vars.length c.arrays.length c.list.length ((kindsOf op).getD 0 0) a && fOK c.vars.length c.arrays.length c.list.length ((kindsOf op).getD 1 0) b && fOK c.vars.length c.arrays.length c.list.length ((kindsOf op).getD 2 0) c' && fOK c.vars.length c.arrays.length c.list.length ((kindsOf op).getD 3 0) d):=by
  unfold inOK
  rw [show decide (1≤op)=true by simp;omega,show decide (op≤13)=true by simp;omega]
  rfl
 rw [hin] at ret
 have retF:∀ (i:Nat) (hp:Hp),i<4→fOK c.vars.length c.arrays.length c.list.length ((kindsOf op).getD i 0) ([a,b,c',d].getD i 0)=false→RetOb 0 R (DB false) hp:=fun i hp hi h=>by
  refine ret _ _ ?_
  have:i=0∨i=1∨i=2∨i=3:=by omega
  rcases this with rfl | rfl | rfl | rfl
  ·rw [show fOK c.vars.length c.arrays.length c.list.length ((kindsOf op).getD 0 0) a=false from h];simp only [Bool.and_false,Bool.false_and]
  ·rw [show fOK c.vars.length c.arrays.length c.list.length ((kindsOf op).getD 1 0) b=false from h];simp only [Bool.and_false,Bool.false_and]
  ·rw [show fOK c.vars.length c.arrays.length c.list.length ((kindsOf op).getD 2 0) c'=false from h];simp only [Bool.and_false,Bool.false_and]
  ·rw [show fOK c.vars.length c.arrays.length c.list.length ((kindsOf op).getD 3 0) d=false from h];simp only [Bool.and_false]
 have retT:∀ (hp:Hp),(∀ i:Nat,i<4→fOK c.vars.length c.arrays.length c.list.length ((kindsOf op).getD i 0) ([a,b,c',d].getD i 0)=true)→RetOb 0 R (DB true) hp:=fun hp h=>by
  refine ret _ _ ?_
  rw [show fOK c.vars.length c.arrays.length c.list.length ((kindsOf op).getD 0 0) a=true from h 0 (by omega),show fOK c.vars.length c.arrays.length c.list.length ((kindsOf op).getD 1 0) b=true from h 1 (by omega),show fOK c.vars.length c.arrays.length c.list.length ((kindsOf op).getD 2 0) c'=true from h 2 (by omega),show fOK c.vars.length c.arrays.length c.list.length ((kindsOf op).getD 3 0) d=true from h 3 (by omega)];rfl
 clear ret hin
 have hsz:(shp op).size=4:=rfl
 have hse:((shp op).toList == (ByteArray.toList { data:=#[] }))=false:=shp_ne op ⟨o1,o2⟩
 refine dcZ Tryz.func42 ?_
 simp only [go_sem]
 iterate 5 ((try (refine drvZ Tryz.func42 ?_;simp only [go_sem]));((with_reducible and_intros)<;>try exact sd);(try first | refine XK.p hsh ok70 ?_ | refine XK.gp hsh ok70 ?_ | refine XK.p hfi ok71 ?_ | refine XK.gp hfi ok71 ?_))
 refine Go.loopQ (fun i : Nat => [(2, .c (.ptr 0 0)), (5, DS (shp op)), (12, .c (.isl 1 [[I64 a], [I64 b], [I64 c'], [I64 d]])), (13, DI .i64 4), (14, DI .i64 i)]) (fun _ => [(0, some [isI c.vars, isI c.arrays, .isl 5 LI])])
  4096 (fun i=>i≤4∧∀ j:Nat,j<i→fOK c.vars.length c.arrays.length c.list.length ((kindsOf op).getD j 0) ([a,b,c',d].getD j 0)=true) (fun i=>4 - i) ?_ 0 some [] _ ⟨by omega,fun j hj=>by omega⟩ ?_
 ·rintro i ⟨hi,hI⟩ again
  rcases Nat.lt_or_ge i 4 with hlt | hge
  ·have hx:[[I64 a],[I64 b],[I64 c'],[I64 d]][i]? = some [I64 ([a,b,c',d].getD i 0)]:=by
    have:i=0∨i=1∨i=2∨i=3:=by omega
    rcases this with rfl | rfl | rfl | rfl<;>rfl
   have hc:=hf _ (kinds_le op i) ([a,b,c',d].getD i 0)
   have hat:=shp_at op i hlt
   have hlt':(i:Int)<4:=by omega
   have retF:=fun hp=>retF i hp hlt
   have hst:∀ q:fOK c.vars.length c.arrays.length c.list.length ((kindsOf op).getD i 0) ([a,b,c',d].getD i 0)=true,i+1≤4∧∀ j:Nat,j<i+1→fOK c.vars.length c.arrays.length c.list.length ((kindsOf op).getD j 0) ([a,b,c',d].getD j 0)=true:=fun q=>⟨hlt,fun j hj=>by
    by_cases e:j=i
    ·subst e;exact q
    ·exact hI j (by omega)⟩
   generalize [a,b,c',d].getD i 0=n at *
   generalize (kindsOf op).getD i 0=k at *
   generalize [[I64 a],[I64 b],[I64 c'],[I64 d]]=fl at *
   generalize shp op=sp at *
   cases hq:fOK c.vars.length c.arrays.length c.list.length k n with
   | true =>
    rw [hq] at hc
    have hs:=hst hq
    refine drvL Tryz.func42 ?_
    simp only [go_sem,hlt']
    iterate 5 ((try (refine drvZ Tryz.func42 ?_;simp only [go_sem,hx,hlt',hat,hsz,hse]));((with_reducible and_intros)<;>try exact sd);(try first | refine XK.p hc ok72 ?_ | refine XK.gp hc ok72 ?_))
    refine again (i+1) some [] _ hs (by omega) ?_
    simp only [go_sem,TmOK,DM,DMs,CM,CMs,forall_eq,exists_eq_left,Mq,HpOK,LowOK]
    try simp
   | false =>
    rw [hq] at hc
    refine drvL Tryz.func42 ?_
    simp only [go_sem,hlt']
    iterate 5 ((try (refine drvZ Tryz.func42 ?_;simp only [go_sem,hx,hlt',hat,hsz,hse]));((with_reducible and_intros)<;>try exact sd);(try first | refine XK.p hc ok72 ?_ | refine XK.gp hc ok72 ?_))
    exact retF _ hq
  ·obtain rfl:i=4:=by omega
   have h44:(((4:Nat):Int)<4)=False:=eq_false (by decide)
   refine drvL Tryz.func42 ?_
   simp only [go_sem,h44]
   iterate 3 ((try (refine drvZ Tryz.func42 ?_;simp only [go_sem,h44]));((with_reducible and_intros)<;>try exact sd))
   exact retT _ hI
 ·simp only [go_sem,TmOK,DM,DMs,CM,CMs,forall_eq,exists_eq_left,Mq,HpOK,LowOK]
  simp
  try exact fun a _=>rfl
open CtL (In Cd kindsOf topOf fOK inOK endOK codeOK atC halt)
theorem cvFnG (c : Cd) (h1 : c.vars.length ≤ mx) (h2 : c.arrays.length ≤ mx) (h3 : c.list.length ≤ mx) (x : In) :
 DC Tryz.prog 41 [.agg (inX x),.c (.eptr (cdC c))] [] (fun r h=>r=DB (!inOK c.vars.length c.arrays.length c.list.length x)∧h=[]):=by
 have hio:=instrOkG c h1 h2 h3 x
 generalize inOK c.vars.length c.arrays.length c.list.length x=B at *
 unfold cdC at hio ⊢
 obtain ⟨op,a,b,c',d⟩:=x
 unfold inX at hio ⊢
 refine dcZ Tryz.func41 ?_
 simp only [go_sem]
 iterate 4 ((try (refine drvZ Tryz.func41 ?_;simp only [go_sem]));((with_reducible and_intros)<;>try exact sd);(try first | refine XK.p hio ok42 ?_ | refine XK.gp hio ok42 ?_))
 exact RetOb.plain (d:=DB (!B)) ⟨rfl,rfl⟩ rfl
def ixB (p : In → Bool) : List In → Int → Int
 | [],_ => -1
 | x :: r,n=>if p x then ixB p r (n+1) else n
theorem ixB_all (p : In → Bool) : ∀ (l : List In) (n : Int), 0 ≤ n → decide (0 ≤ ixB p l n) = !l.all p
 | [],n,h=>rfl
 | x :: r,n,h=>by
  cases hx:p x with
  | true=>simp only [ixB,hx,if_true,List.all_cons,Bool.true_and];exact ixB_all p r (n+1) (by omega)
  | false=>simp [ixB,hx,h]
theorem indexFuncG (cc : List C) (p : In → Bool) (xs : List In) (hl : xs.length ≤ mx) (hg : ∀ x, DC Tryz.prog 41 [.agg (inX x), .c (.eptr cc)] [] (fun r h => r = DB (!p x) ∧ h = [])) :
 DC Tryz.prog 69 [.c (.isl 5 (xs.map inX)),.c (.clo 41 [.eptr cc])] [] (fun d h=>d=DI .i64 (ixB p xs 0)∧h=[]):=by
 have hmx:=mx_eq
 have ret:∀ (v:Int) (hp:Hp),v=ixB p xs 0→RetOb 0 (fun d h=>d=DI .i64 (ixB p xs 0)∧h=[]) (DI .i64 v) hp:=fun v hp h=>RetOb.plain (d:=DI .i64 _) ⟨by rw [h],rfl⟩ rfl
 generalize hR:(fun (d:D) (h:List (Option (List C)))=>d=DI .i64 (ixB p xs 0)∧h=[])=R at ret ⊢
 clear hR
 refine dcZ Tryz.func69 ?_
 simp only [go_sem]
 ((try (refine drvZ Tryz.func69 ?_;simp only [go_sem]));((with_reducible and_intros)<;>try exact sd))
 refine Go.loopQ (fun i:Nat=>[(0,.c (.isl 5 (xs.map inX))),(1,.c (.clo 41 [.eptr cc])),(7,DI .i64 xs.length),(8,DI .i64 i)]) (fun _=>[]) 1024 (fun i=>i≤xs.length∧ixB p (xs.drop i) i=ixB p xs 0) (fun i=>xs.length - i) ?_ 0 some [] _ ⟨Nat.zero_le _,rfl⟩ ?_
 ·rintro i ⟨hi,hI⟩ again
  rcases Nat.lt_or_ge i xs.length with hlt | hge
  ·obtain ⟨x,hx⟩:∃ x,xs[i]? = some x:=⟨xs[i],by simp [hlt]⟩
   have hgx:=hg x
   rw [List.drop_eq_getElem_cons hlt,(List.getElem?_eq_some_iff.1 hx).2] at hI
   cases hpx:p x with
   | true =>
    rw [hpx] at hgx
    simp only [ixB,hpx,if_true] at hI
    obtain ⟨op,a,b,c,d⟩:=x
    simp only [inX] at hgx
    refine drvL Tryz.func69 ?_
    simp only [go_sem,hx,hlt,inX]
    iterate 5 ((try (refine drvZ Tryz.func69 ?_;simp only [go_sem,hx,hlt,inX]));((with_reducible and_intros)<;>try exact sd);(try first | refine XK.p hgx ok41 ?_ | refine XK.gp hgx ok41 ?_))
    refine again (i+1) some [] _ ⟨hlt,by rw [← hI];rfl⟩ (by omega) ?_
    simp only [go_sem,TmOK,DM,DMs,CM,CMs,forall_eq,exists_eq_left,Mq,HpOK,LowOK]
    first | done | (simp;done) | (simp;exact CM.kf rfl) | exact CM.kf rfl
   | false =>
    rw [hpx] at hgx
    simp only [ixB,hpx] at hI
    obtain ⟨op,a,b,c,d⟩:=x
    simp only [inX] at hgx
    refine drvL Tryz.func69 ?_
    simp only [go_sem,hx,hlt,inX]
    iterate 5 ((try (refine drvZ Tryz.func69 ?_;simp only [go_sem,hx,hlt,inX]));((with_reducible and_intros)<;>try exact sd);(try first | refine XK.p hgx ok41 ?_ | refine XK.gp hgx ok41 ?_))
    exact ret _ _ (by rw [← hI];rfl)
  ·have hn:¬ i<xs.length:=by omega
   have e1:xs.drop i=[]:=List.drop_of_length_le (by omega)
   refine drvL Tryz.func69 ?_
   simp only [go_sem,hn]
   iterate 3 ((try (refine drvZ Tryz.func69 ?_;simp only [go_sem,hn]));((with_reducible and_intros)<;>try exact sd))
   exact ret _ _ (by rw [← hI,e1];rfl)
 ·simp only [go_sem,TmOK,DM,DMs,CM,CMs,forall_eq,exists_eq_left,Mq,HpOK,LowOK]
  first | done | (simp;done) | (simp;exact CM.kf rfl) | exact CM.kf rfl
theorem containsFuncG (cc : List C) (p : In → Bool) (xs : List In) (hl : xs.length ≤ mx) (hg : ∀ x, DC Tryz.prog 41 [.agg (inX x), .c (.eptr cc)] [] (fun r h => r = DB (!p x) ∧ h = [])) :
 DC Tryz.prog 40 [.c (.isl 5 (xs.map inX)),.c (.clo 41 [.eptr cc])] [] (fun d h=>d=DB (!xs.all p)∧h=[]):=by
 have hif:=indexFuncG cc p xs hl hg
 have hal:=ixB_all p xs 0 (by omega)
 generalize ixB p xs 0=k at *
 refine dcZ Tryz.func40 ?_
 simp only [go_sem]
 iterate 3 ((try (refine drvZ Tryz.func40 ?_;simp only [go_sem]));((with_reducible and_intros)<;>try exact sd);(try first | refine XK.p hif ok69 ?_ | refine XK.gp hif ok69 ?_))
 exact RetOb.plain (d:=DB _) ⟨by rw [← hal],rfl⟩ rfl
theorem codeValidG0 (c:Cd) (h1:c.vars.length≤2000000) (h2:c.arrays.length≤2000000) (h3:c.list.length≤100000000) (h:codeOK c=false):DC Tryz.prog 13 [.agg (cdC c)] [] (fun r h=>r=DB false∧h=[]):=by
 have hmx:=mx_eq
 have hfn:=fun x=>cvFnG c (by omega) (by omega) (by omega) x
 have ret:∀ hp:Hp,RetOb 0 (fun r h=>r=DB false∧h=[]) (DB false) hp:=fun hp=>RetOb.plain (d:=DB false) ⟨rfl,rfl⟩ rfl
 generalize hR:(fun (r:D) (h:List (Option (List C)))=>r=DB false∧h=[])=R at ret ⊢
 clear hR
 obtain ⟨vs,ar,l⟩:=c
 simp only at h1 h2 h3 hfn
 have hcf:=containsFuncG (cdC ⟨vs,ar,l⟩) (inOK vs.length ar.length l.length) l (by omega) hfn
 have hde:=declared vs ar (by omega) (by omega)
 have hw:=CtR.within l.length 1 400
 unfold codeOK at h
 simp only at h
 unfold cdC at hcf ⊢
 cases hh:headsOK vs ar with
 | false =>
  rw [hh] at hde
  clear hw hcf
  refine dcZ Tryz.func13 ?_
  simp only [go_sem]
  iterate 8 ((try (refine drvZ Tryz.func13 ?_;simp only [go_sem,List.length_map]));((with_reducible and_intros)<;>try exact sd);(try first | refine XK.p hde ok38 ?_ | refine XK.gp hde ok38 ?_ | refine XK.gs (DB false) ?_))
  exact ret _
 | true =>
  rw [hh] at hde h
  simp only [Bool.true_and] at h
  cases hb:(decide (1≤(l.length:Int)) && decide ((l.length:Int)≤400)) with
  | false =>
   rw [hb] at hw
   clear hcf
   refine dcZ Tryz.func13 ?_
   simp only [go_sem]
   iterate 8 ((try (refine drvZ Tryz.func13 ?_;simp only [go_sem,List.length_map]));((with_reducible and_intros)<;>try exact sd);(try first | refine XK.p hde ok38 ?_ | refine XK.gp hde ok38 ?_ | refine XK.p hw ok39 ?_ | refine XK.gp hw ok39 ?_ | refine XK.gs (DB false) ?_))
   exact ret _
  | true =>
   rw [hb] at hw h
   simp only [Bool.true_and] at h
   simp only [Bool.and_eq_true,decide_eq_true_eq] at hb
   obtain ⟨x,hx⟩:∃ x,l[l.length - 1]? = some x:=⟨l[l.length - 1]'(by omega),by simp⟩
   have hat:atC l (l.length - 1)=x:=by simp [atC,List.getD,hx]
   simp only [endOK,hat] at h
   have hpos:((l.length:Int) - 1).toNat=l.length - 1:=by omega
   have hget:(l.map inX)[l.length - 1]? = some (inX x):=by rw [List.getElem?_map,hx];rfl
   generalize hal:l.all (inOK vs.length ar.length l.length)=al at *
   obtain ⟨op,xa,xb,xc,xd⟩:=x
   simp only at h
   refine dcZ Tryz.func13 ?_
   simp only [go_sem]
   iterate 6 ((try (refine drvZ Tryz.func13 ?_;simp only [go_sem,List.length_map]));((with_reducible and_intros)<;>try exact sd);(try first | refine XK.p hde ok38 ?_ | refine XK.gp hde ok38 ?_ | refine XK.p hw ok39 ?_ | refine XK.gp hw ok39 ?_))
   refine XK.subQ (r := some) (fz := [0]) (tl := [(1, .c (.eptr [isI vs, isI ar, .isl 5 (l.map inX)])), (2, DB false), (17, DB false), (19, .when true (.c (.isl 5 (l.map inX)))), (20, .when true (.c (.clo 41 [.eptr [isI vs, isI ar, .isl 5 (l.map inX)]])))])
    (hl:=[]) ?_ ?_
   ·simp only [go_sem,TmOK,DM,DMs,CM,CMs,forall_eq,exists_eq_left,Mq,HpOK,LowOK]
    simp
   cases al with
   | false =>
    iterate 9 ((try (refine drvZ Tryz.func13 ?_;simp only [go_sem,List.length_map]));((with_reducible and_intros)<;>try exact sd);(try first | refine XK.p hcf ok40 ?_ | refine XK.gp hcf ok40 ?_))
    exact ret _
   | true =>
    simp only [Bool.true_and,Bool.or_eq_false_iff] at h
    have e1:=h.1
    have e2:=h.2
    iterate 9 ((try (refine drvZ Tryz.func13 ?_;simp only [go_sem,List.length_map,hpos,hget,inX,e1,e2]));((with_reducible and_intros)<;>try exact sd);(try first | refine XK.p hcf ok40 ?_ | refine XK.gp hcf ok40 ?_))
    exact ret _
open CtL (In Cd)
structure CdB (c : Cd) : Prop where
 nv:c.vars.length≤mx
 na:c.arrays.length≤mx
 nl:c.list.length≤mx
theorem eqInstrSOf (l:List (In)) (hl:l.length≤mx) (hc:∀ x ∈ l,DC Tryz.prog 62 [.agg (inX x),.agg (inX x)] [] (fun r h=>r=DB true∧h=[])):DC Tryz.prog 30 [.c (.isl 5 ((l.map inX))),.c (.isl 5 ((l.map inX)))] [] (fun r h=>r=DB true∧h=[]):=by
 have hmx:=mx_eq
 have ret:∀ hp:Hp,RetOb 0 (fun r h=>r=DB true∧h=[]) (DB true) hp:=fun hp=>RetOb.plain (d:=DB true) ⟨rfl,rfl⟩ rfl
 generalize hR:(fun (r:D) (h:List (Option (List C)))=>r=DB true∧h=[])=R at ret ⊢
 clear hR
 have hrl:((l.map inX)).length=l.length:=by simp [List.length_map]
 have hrx:∀ (i:Nat) x,l[i]? = some x→True:=fun _ _ _=>trivial
 refine dcZ Tryz.func30 ?_
 simp only [go_sem,hrl,bne_self_eq_false]
 iterate 4 ((try (refine drvZ Tryz.func30 ?_;simp only [go_sem,hrl,bne_self_eq_false]));((with_reducible and_intros)<;>try exact sd))
 refine Go.loopQ (fun i:Nat=>[(0,.c (.isl 5 ((l.map inX)))),(1,.c (.isl 5 ((l.map inX)))),(5,DI .i64 i)]) (fun _=>[]) 1024 (fun i=>i≤l.length) (fun i=>l.length - i) ?_ 0 some [] _ (by omega) ?_
 ·intro i hi again
  rcases Nat.lt_or_ge i l.length with hlt | hge
  ·obtain ⟨x,hx⟩:∃ x,l[i]? = some x:=⟨l[i],by simp [hlt]⟩
   have hcx:=hc x (List.mem_of_getElem? hx)
   obtain ⟨o0,a0,b0,c0,d0⟩:=x
   have hxl:((l.map inX))[i]? = some [I64 o0,I64 a0,I64 b0,I64 c0,I64 d0]:=by rw [List.getElem?_map,hx];rfl
   simp only [inX] at hcx
   generalize hRW:(l.map inX)=rows at *
   refine drvL Tryz.func30 ?_
   simp only [go_sem,hrl,hlt,hxl,bne_self_eq_false]
   iterate 6 ((try (refine drvZ Tryz.func30 ?_;simp only [go_sem,hrl,hlt,hxl,bne_self_eq_false]));((with_reducible and_intros)<;>try exact sd);(try first | refine XK.p hcx ok62 ?_ | refine XK.gp hcx ok62 ?_))
   refine again (i+1) some [] _ hlt (by omega) ?_
   simp only [go_sem,TmOK,DM,DMs,CM,CMs,forall_eq,exists_eq_left,Mq,HpOK,LowOK]
   try simp
  ·have hn:¬ i<l.length:=by omega
   generalize hRW:(l.map inX)=rows at *
   refine drvL Tryz.func30 ?_
   simp only [go_sem,hrl,hn]
   iterate 3 ((try (refine drvZ Tryz.func30 ?_;simp only [go_sem,hrl,hn]));((with_reducible and_intros)<;>try exact sd))
   exact ret _
 ·simp only [go_sem,TmOK,DM,DMs,CM,CMs,forall_eq,exists_eq_left,Mq,HpOK,LowOK]
  try simp
theorem eqInstrOf (x:In)  : DC Tryz.prog 62 [.agg (inX x),.agg (inX x)] [] (fun r h=>r=DB true∧h=[]):=by
 have hmx:=mx_eq
 have ret:∀ hp:Hp,RetOb 0 (fun r h=>r=DB true∧h=[]) (DB true) hp:=fun hp=>RetOb.plain (d:=DB true) ⟨rfl,rfl⟩ rfl
 generalize hR:(fun (r:D) (h:List (Option (List C)))=>r=DB true∧h=[])=R at ret ⊢
 clear hR
 obtain ⟨op,a,b,c',d⟩:=x
 unfold inX
 refine dcZ Tryz.func62 ?_
 simp only [go_sem,bne_self_eq_false]
 iterate 14 ((try (refine drvZ Tryz.func62 ?_;simp only [go_sem,bne_self_eq_false]));((with_reducible and_intros)<;>try exact sd))
 exact ret _
theorem eqCodeOf (c:Cd) (hv:DC Tryz.prog 29 [.c (isI c.vars),.c (isI c.vars)] [] (fun r h=>r=DB true∧h=[])) (ha:DC Tryz.prog 29 [.c (isI c.arrays),.c (isI c.arrays)] [] (fun r h=>r=DB true∧h=[])) (hb:DC Tryz.prog 30 [.c (.isl 5 (c.list.map inX)),.c (.isl 5 (c.list.map inX))] [] (fun r h=>r=DB true∧h=[])):DC Tryz.prog 7 [.agg (cdC c),.agg (cdC c)] [] (fun r h=>r=DB true∧h=[]):=by
 have hmx:=mx_eq
 have ret:∀ hp:Hp,RetOb 0 (fun r h=>r=DB true∧h=[]) (DB true) hp:=fun hp=>RetOb.plain (d:=DB true) ⟨rfl,rfl⟩ rfl
 generalize hR:(fun (r:D) (h:List (Option (List C)))=>r=DB true∧h=[])=R at ret ⊢
 clear hR
 obtain ⟨vs,ar,l⟩:=c
 simp only [cdC] at *
 refine dcZ Tryz.func7 ?_
 simp only [go_sem,bne_self_eq_false]
 iterate 14 ((try (refine drvZ Tryz.func7 ?_;simp only [go_sem,bne_self_eq_false]));((with_reducible and_intros)<;>try exact sd);(try first | refine XK.p hv ok29 ?_ | refine XK.gp hv ok29 ?_ | refine XK.p ha ok29 ?_ | refine XK.gp ha ok29 ?_ | refine XK.p hb ok30 ?_ | refine XK.gp hb ok30 ?_))
 exact ret _
theorem eqCode_c (c:Cd) (hb:CdB c):DC Tryz.prog 7 [.agg (cdC c),.agg (cdC c)] [] (fun r h=>r=DB true∧h=[]) :=
 eqCodeOf c (eqIntST c.vars hb.nv) (eqIntST c.arrays hb.na) (eqInstrSOf c.list hb.nl fun x _=>eqInstrOf x)
open CtL (In Cd kindsOf)
open CtL (In Cd)
open CtL (In Cd)
open CtL (In Cd kindsOf)
open CtL (In Cd kindsOf)
theorem TL.nil {tm:Nat→Option D}:∀ p ∈ ([]:List (Nat × D)),tm p.1=some p.2∧WsD p.2:=fun p h=>by simp at h
theorem TL.cons {tm:Nat→Option D} {n:Nat} {d:D} {l:List (Nat × D)} (h1:tm n=some d) (h2:WsD d) (h:∀ p ∈ l,tm p.1=some p.2∧WsD p.2):∀ p ∈ (n,d) :: l,tm p.1=some p.2∧WsD p.2:=fun p hp=>by
 rcases List.mem_cons.1 hp with rfl | hp
 ·exact ⟨h1,h2⟩
 ·exact h p hp
def mkI (k:Int) (n:Nat):List Int:=(List.range n).map fun (i:Nat)=>k+(i:Int)
theorem mkI_len (k:Int) (n:Nat):(mkI k n).length=n:=by simp [mkI]
theorem mkI_succ (k:Int) (n:Nat):mkI k (n+1)=mkI k n++[k+(n:Int)]:=by simp [mkI,List.range_succ]
theorem set_next {α:Type} {A l:List α} {i:Nat} (hA:A.length=i) (h:i<l.length) (y:α):(A++l.drop i).set i y=A++[y]++l.drop (i+1):=by
 rw [List.drop_eq_getElem_cons h]
 generalize l[i]=z
 subst hA
 rw [List.set_append_right _ _ (Nat.le_refl _)]
 simp
def intsC (l:List Int):List C:=l.map I64
theorem intsC_len (l:List Int):(intsC l).length=l.length:=by simp [intsC]
theorem intsC_kf (l:List Int):∀ c ∈ intsC l,kf c=true:=fun c hc=>by obtain ⟨x,_,rfl⟩:=List.mem_map.1 hc;rfl
theorem markIntSO (l:List Int) (k:Int) (hk:0≤k) (hb:k+(l.length:Nat)≤1099511627776):DC Tryz.prog 31 [.c (.msl 0 1 0 l.length),DI .i64 k] [some (intsC l)] (fun r h=>r=DI .i64 (k+(l.length:Nat))∧h=[some (intsC (mkI k l.length))]):=by
 have hmx:=mx_eq
 have ret:∀ (n:Int) (cs:List C) (hp:Hp),n=k+(l.length:Nat)→hp 0=some (some cs)→cs=intsC (mkI k l.length)→RetOb 1 (fun r h=>r=DI .i64 (k+(l.length:Nat))∧h=[some (intsC (mkI k l.length))]) (DI .i64 n) hp:=fun n cs hp h1 h2 h3=>by
  subst h1 h3
  refine RetOb.ofQ (fun j=>if j=0 then some 0 else none) [] _ [some (intsC (mkI k l.length))] ?_ ⟨rfl,rfl⟩ (by simp)
  have e4:∀ {hT hS:Hp} {r:Nat→Option Nat} {fz:List Nat},CMs hT r hS fz (intsC (mkI k l.length)) (intsC (mkI k l.length))=True:=eq_true (CMs.kf (intsC_kf _))
  simp [enumL,DM,DMs,CM,CMs,HpOK,LowOK,hOf,upd,h2,e4]
 generalize hR:(fun (r:D) (h:List (Option (List C)))=>r=DI .i64 (k+(l.length:Nat))∧h=[some (intsC (mkI k l.length))])=R at ret ⊢
 clear hR
 have hcl:=intsC_len l
 refine dcZ Tryz.func31 ?_
 simp only [go_sem]
 iterate 3 ((try (refine drvZ Tryz.func31 ?_;simp only [go_sem]));((with_reducible and_intros)<;>try exact sd))
 refine Go.loopQ (fun i:Nat=>[(0,.c (.msl 0 1 0 l.length)),(1,DI .i64 (k+(i:Int))),(5,DI .i64 i)]) (fun i=>[(0,some (intsC (mkI k i++l.drop i)))]) 1024 (fun i=>i≤l.length) (fun i=>l.length - i) ?_ 0 some [] _ (by omega) ?_
 ·intro i hi again
  have hci:(intsC (mkI k i++l.drop i)).length=l.length:=by rw [intsC_len,List.length_append,mkI_len,List.length_drop];omega
  rcases Nat.lt_or_ge i l.length with hlt | hge
  ·have hst:(intsC (mkI k i++l.drop i)).set i (.v (.int .i64 (k+(i:Int))))=intsC (mkI k (i+1)++l.drop (i+1)):=by
    rw [mkI_succ,← set_next (mkI_len k i) hlt]
    simp [intsC,List.map_set]
   have h3:(0:Int)≤k+(i:Int):=by omega
   generalize intsC (mkI k i++l.drop i)=B at *
   refine drvL Tryz.func31 ?_
   simp only [go_sem,hlt,hci,h3]
   iterate 4 ((try (refine drvZ Tryz.func31 ?_;simp only [go_sem,hlt,hci,h3,Nat.mul_one]));((with_reducible and_intros)<;>try exact sd))
   simp only [hst]
   refine again (i+1) some [] _ hlt (by omega) ?_
   simp only [go_sem,TmOK,DM,DMs,CM,CMs,forall_eq,exists_eq_left,Mq,HpOK,LowOK]
   exact ⟨by rw [Int.add_assoc],⟨by simp,CMs.kf (intsC_kf _)⟩,by simp⟩
  ·obtain rfl:i=l.length:=by omega
   have hn:¬ l.length<l.length:=by omega
   refine drvL Tryz.func31 ?_
   simp only [go_sem,hn]
   iterate 3 ((try (refine drvZ Tryz.func31 ?_;simp only [go_sem,hn]));((with_reducible and_intros)<;>try exact sd))
   exact ret _ _ _ rfl rfl (by rw [List.drop_length,List.append_nil])
 ·simp only [go_sem,TmOK,DM,DMs,CM,CMs,forall_eq,exists_eq_left,Mq,HpOK,LowOK]
  exact ⟨⟨by simp,CMs.kf (intsC_kf l)⟩,by simp⟩
theorem heldIntSP (k:Int) (n:Nat) (hk:0≤k) (hb:k+(n:Nat)≤1099511627776) (hn:n≤mx):DC Tryz.prog 33 [.c (.isl 1 ((mkI k n).map fun b=>[I64 b])),DI .i64 k] [] (fun r h=>r=DI .i64 (k+(n:Nat))∧h=[]):=by
 have hmx:=mx_eq
 have ret:∀ (v:Int) (hp:Hp),v=k+(n:Nat)→RetOb 0 (fun r h=>r=DI .i64 (k+(n:Nat))∧h=[]) (DI .i64 v) hp:=fun v hp h=>by subst h;exact RetOb.plain ⟨rfl,rfl⟩ rfl
 generalize hR:(fun (r:D) (h:List (Option (List C)))=>r=DI .i64 (k+(n:Nat))∧h=[])=R at ret ⊢
 clear hR
 have hrl:((mkI k n).map fun b=>[I64 b]).length=n:=by simp [mkI_len]
 refine dcZ Tryz.func33 ?_
 simp only [go_sem,hrl]
 iterate 3 ((try (refine drvZ Tryz.func33 ?_;simp only [go_sem,hrl]));((with_reducible and_intros)<;>try exact sd))
 refine Go.loopQ (fun i:Nat=>[(0,.c (.isl 1 ((mkI k n).map fun b=>[I64 b]))),(1,DI .i64 (k+(i:Int))),(5,DI .i64 i)]) (fun _=>[]) 1024 (fun i=>i≤n) (fun i=>n - i) ?_ 0 some [] _ (by omega) ?_
 ·intro i hi again
  rcases Nat.lt_or_ge i n with hlt | hge
  ·have hxl:((mkI k n).map fun b=>[I64 b])[i]? = some [I64 (k+(i:Int))]:=by simp [mkI,hlt]
   have h3:(0:Int)≤k+(i:Int):=by omega
   generalize ((mkI k n).map fun b=>[I64 b])=rows at *
   refine drvL Tryz.func33 ?_
   simp only [go_sem,hrl,hlt,hxl,h3,bne_self_eq_false]
   iterate 5 ((try (refine drvZ Tryz.func33 ?_;simp only [go_sem,hrl,hlt,hxl,h3,bne_self_eq_false]));((with_reducible and_intros)<;>try exact sd))
   refine again (i+1) some [] _ hlt (by omega) ?_
   simp only [go_sem,TmOK,DM,DMs,CM,CMs,forall_eq,exists_eq_left,Mq,HpOK,LowOK]
   simp
   omega
  ·obtain rfl:n=i:=by omega
   have hnn:¬ n<n:=by omega
   generalize ((mkI k n).map fun b=>[I64 b])=rows at *
   refine drvL Tryz.func33 ?_
   simp only [go_sem,hrl,hnn]
   iterate 3 ((try (refine drvZ Tryz.func33 ?_;simp only [go_sem,hrl,hnn]));((with_reducible and_intros)<;>try exact sd))
   exact ret _ _ rfl
 ·simp only [go_sem,TmOK,DM,DMs,CM,CMs,forall_eq,exists_eq_left,Mq,HpOK,LowOK]
  all_goals simp
theorem ML.nil {hT:Hp} {tm:Nat→Option D}:∀ p ∈ ([]:List (Nat × D)),∃ d,tm p.1=some d∧SmD hT d p.2:=fun p h=>by simp at h
theorem ML.cons {hT:Hp} {tm:Nat→Option D} {n:Nat} {d0 d:D} {l:List (Nat × D)} (h1:tm n=some d0) (h2:SmD hT d0 d) (h:∀ p ∈ l,∃ d,tm p.1=some d∧SmD hT d p.2):∀ p ∈ (n,d) :: l,∃ d,tm p.1=some d∧SmD hT d p.2:=fun p hp=>by
 rcases List.mem_cons.1 hp with rfl | hp
 ·exact ⟨d0,h1,h2⟩
 ·exact h p hp
theorem HL.nil {hT hp:Hp}:∀ p ∈ ([]:List (Nat × Option (List C))),∃ cs cs',hp p.1=some (some cs)∧p.2=some cs'∧Sms hT cs cs':=fun p h=>by simp at h
theorem HL.cons {hT hp : Hp} {n : Nat} {cs0 cs1 : List C} {l : List (Nat × Option (List C))} (h1 : hp n = some (some cs0)) (h2 : Sms hT cs0 cs1) (h : ∀ p ∈ l, ∃ cs cs', hp p.1 = some (some cs) ∧ p.2 = some cs' ∧ Sms hT cs cs') :
 ∀ p ∈ (n,some cs1) :: l,∃ cs cs',hp p.1=some (some cs)∧p.2=some cs'∧Sms hT cs cs':=fun p hp=>by
 rcases List.mem_cons.1 hp with rfl | hp
 ·exact ⟨cs0,cs1,h1,rfl,h2⟩
 ·exact h p hp
theorem I_ren (r:Nat→Nat) (L:List Int):renCs r (L.map I64)=L.map I64:=renCs_I r L
def rowsM (b w n:Nat):List C:=(List.range n).map fun (i:Nat)=>C.msl (b+i) 1 0 w
theorem rowsM_cm {hT hS:Hp} {r:Nat→Option Nat} {fz:List Nat} {b b' w n:Nat} (h:∀ i,i<n→r (b+i)=some (b' + i)∧hT (b+i) ≠ none):CMs hT r hS fz (rowsM b w n) (rowsM b' w n):=by
 unfold rowsM
 have:∀ l:List Nat,(∀ i ∈ l,i<n)→CMs hT r hS fz (l.map fun i=>C.msl (b+i) 1 0 w) (l.map fun i=>C.msl (b' + i) 1 0 w):=fun l=>by
  induction l with
  | nil=>intro _;simp [CMs]
  | cons a s ih =>
   intro hl
   obtain ⟨h1,h2⟩:=h a (hl a (by simp))
   simp only [List.map_cons,CMs,CM]
   refine ⟨?_,ih fun i hi=>hl i (by simp [hi])⟩
   simp [h1,h2]
 exact this _ fun i hi=>by simpa using hi
theorem enumL_blks : ∀ (L : List (List C)) (b : Nat), enumL b (L.map some) = blks b L
 | [],b=>rfl
 | x :: r,b=>by rw [List.map_cons,enumL,blks,enumL_blks r (b+1)]
def hB (w:Nat) (rows:List (List Bool)):List (Option (List C)):=some (rowsM 1 w rows.length) :: (rows.map boolsC).map some
theorem hB_enum (w:Nat) (rows:List (List Bool)):enumL 0 (hB w rows)=(0,some (rowsM 1 w rows.length)) :: blks 1 (rows.map boolsC):=by rw [hB,enumL,enumL_blks]
theorem low_of {r : Nat → Option Nat} {hT : Hp} : ∀ {m : Nat}, (∀ i, i < m → r i = some i ∧ hT i ≠ none) → LowOK r hT m
 | 0,_=>trivial
 | m+1,h=>⟨h m (by omega),low_of fun i hi=>h i (by omega)⟩
theorem rows_get (X:List C) (rows:List (List Bool)) (i:Nat):hOf ((0,some X) :: blks 1 (rows.map boolsC)) (1+i)=(rows[i]?).map fun a=>some (boolsC a):=by
 rw [hOf,upd,if_neg (by omega),hOf_blks,if_pos (by omega),show 1+i - 1=i by omega,List.getElem?_map,Option.map_map]
 rfl
theorem mq_rows {m n w : Nat} {tl : List (Nat × D)} {S : Ms} {rows : List (List Bool)} (hl : rows.length = n) (hm : m ≤ n + 1) (ht : TmOK (hOf ((0, some (rowsM 1 w n)) :: blks 1 (rows.map boolsC))) some S.hp [] S.tm tl)
 (h0:S.hp 0=some (some (rowsM 1 w n))) (hr:∀ i a,rows[i]? = some a→S.hp (1+i)=some (some (boolsC a))):Mq m some [] tl ((0,some (rowsM 1 w n)) :: blks 1 (rows.map boolsC)) S:=by
 have hk:∀ i,i<n→hOf ((0,some (rowsM 1 w n)) :: blks 1 (rows.map boolsC)) (1+i) ≠ none:=fun i hi=>by
  rw [rows_get,List.getElem?_eq_getElem (by omega)];simp
 refine ⟨ht,⟨?_,HpOK_blks fun i cs hi=>?_⟩,low_of fun i hi=>⟨rfl,?_⟩,?_⟩
 ·simp only [h0]
  exact ⟨by simp,rowsM_cm fun i hi=>⟨rfl,hk i hi⟩⟩
 ·rw [List.getElem?_map,Option.map_eq_some_iff] at hi
  obtain ⟨a,ha,rfl⟩:=hi
  exact ⟨1+i,rfl,by simp,_,hr i a ha,CMs.kf (boolsC_kf _)⟩
 ·rcases Nat.eq_zero_or_pos i with rfl | hp
  ·simp [hOf,upd]
  ·obtain ⟨j,rfl⟩:∃ j,i=1+j:=⟨i - 1,by omega⟩
   exact hk j (by omega)
 ·exact nodup_blks (A:=[(0,some (rowsM 1 w n))]) (g:=fun i=>1+i) (fun i _=>rfl) (fun i j _ _ h=>by omega) (by simp) (by simp;omega)
theorem RetOb.rows {m n w : Nat} {R : D → List (Option (List C)) → Prop} {hp : Hp} {rows : List (List Bool)} {v : Value} (hl : rows.length = n) (hm : m ≤ n + 1) (h0 : hp 0 = some (some (rowsM 1 w n))) (hr : ∀ i a, rows[i]? = some a → hp (1 + i) = some (some (boolsC a)))
 (hR:R (.c (.v v)) (hB w rows)):RetOb m R (.c (.v v)) hp:=by
 have hq:Mq m some [] [] ((0,some (rowsM 1 w n)) :: blks 1 (rows.map boolsC)) ⟨fun _=>none,hp,0⟩:=mq_rows hl hm trivial h0 hr
 refine RetOb.ofQ some [] (.c (.v v)) (hB w rows) ?_ hR (by simp [hB];omega)
 rw [hB_enum,hl]
 exact ⟨by simp [DM,CM],hq.2⟩
open CtG (labT ltrL lstT)
def bstr (l:List UInt8):ByteArray:=⟨l.toArray⟩
theorem bstr_app (a b:List UInt8):bstr a++bstr b=bstr (a++b):=by
 unfold bstr;rw [← List.append_toArray];exact ByteArray.ext (by simp)
def TabW (w : World) : Prop := Lib.TabIs Tryz.prog w "internal/strconv.uint64pow10" .u64 Lib.pow10Tab
def TabY (y:Yn):Prop:=∀ w:World,(∀ b,b<y.n→w.heap[b]? = y.o b)→TabW w
theorem var_lt {P:Program} {w:World} {n:String} {cs:Array Value} (h:w.var? P n=some cs):∃ g T fr,P.globalNamed n=some g∧w.heap[g]? = some (.cells cs T fr):=by
 unfold World.var? at h
 cases hg:P.globalNamed n with
 | none=>rw [hg] at h;simp at h
 | some g =>
  rw [hg] at h
  simp only [Option.bind_some] at h
  split at h
  ·rename_i c T fr e
   simp only [Option.some.injEq] at h
   subst h
   exact ⟨g,T,fr,rfl,e⟩
  ·cases h
theorem tabY_at {w:World} (h:TabW w):TabY (ynAt w):=fun w' hw=>by
 obtain ⟨g,T,fr,h1,h2⟩:=var_lt h
 have hlt:=lt_of_heap h2
 have h3:w'.heap[g]? = w.heap[g]? := hw g hlt
 show w'.var? _ _=_
 simp only [World.var?,h1,Option.bind_some,h3,h2]
theorem tabW_below {w w':World} (h:TabW w) (hb:RowKit.Below w.heap.size w w'):TabW w':=tabY_at h w' fun b hb'=>hb.block b hb'
theorem SimH.tab {I:Nat→Prop} {w:World} {s:Sg} {hp:Hp} (H:SimH I w s hp) (hT:TabY inferInstance):TabW w:=hT w H.yng.2.2
theorem vs_one {I:Nat→Prop} {w:World} {s:Sg} {vs:Array Value} {d:D} (h:RDs I w s vs [d]):∃ v,vs=#[v]∧RD I w s v d:=by
 obtain ⟨hsz,hrd⟩:=h
 rcases vs with ⟨l⟩
 match l,hsz with
 | [v],_=>exact ⟨v,rfl,hrd 0 (by simp) (by simp)⟩
theorem itoaD (hT:TabY inferInstance) (n:Int) (h0 : -9223372036854775808≤n) (h1:n≤9223372036854775807):DC Tryz.prog 110 [DI .i64 n] [] (fun r h=>r=DS (bstr (Lib.itoa n))∧h=[]) :=
 DC.ofBelow rfl fun I w s vs H hv=>by
  obtain ⟨v,rfl,hr⟩:=vs_one hv
  obtain ⟨rfl,_⟩:=rd_scalar hr
  refine (Tryz.strconv_Itoa n h0 h1 w (SimH.tab H hT)).mono ?_
  rintro e w' ⟨rfl,k,os,rfl⟩
  exact ⟨rfl,Lib.below_grow _ w (Nat.le_refl _) k os⟩
theorem decD (n:Nat) (hn:n<4611686018427387904):DC Tryz.prog 67 [DI .i64 n] [] (fun r h=>r=DS (bstr (Lib.itoa n))∧h=[]) :=
 DC.ofBelow rfl fun I w s vs H hv=>by
  obtain ⟨v,rfl,hr⟩:=vs_one hv
  obtain ⟨rfl,_⟩:=rd_scalar hr
  refine (CtG.dec_any n hn w).mono ?_
  rintro e w' ⟨rfl,hb⟩
  exact ⟨by rw [Lib.itoa_nonneg];rfl,hb⟩
theorem row_of {I:Nat→Prop} {w:World} {s:Sg} {v:Value} {xs:List Int} (h:RD I w s v (.c (isI xs))):∃ a cap,v = .slice a xs.length cap∧xs.length≤mx∧(xs=[]∨∃ b off,a=some ⟨b,off,none⟩∧I b∧∀ j,j<xs.length→w.cell? ⟨b,off+j,none⟩=some (.int .i64 (xs.getD j 0))) ∧
 ∀ (y':Yn) (I':Nat→Prop) (s':Sg),(∀ b,I b→I' b)→@RD y' I' w s' v (.c (isI xs)):=by
 cases h with
 | c _ _ h =>
  unfold isI at h ⊢
  generalize hL:(xs.map fun x=>[C.v (.int .i64 x)])=L at h
  have hlen:L.length=xs.length:=by rw [← hL];simp
  cases h with
  | isl0 _ a cap _ =>
   have:xs=[]:=List.eq_nil_of_length_eq_zero (by rw [← hlen];rfl)
   subst this
   exact ⟨a,cap,rfl,Nat.zero_le _,.inl rfl,fun y' I' s' _=>@RD.c y' I' w s' _ _ (@RC.isl0 y' I' w s' a cap 1)⟩
  | isl _ b off cap _ _ yv hI hl hc hr hcap =>
   have hval:∀ j (hj:j<xs.length),yv j 0 = .int .i64 (xs.getD j 0):=fun j hj=>by
    have h2:=hr j (by rw [hlen];exact hj) 0 (by subst hL;simp)
    have e:L[j]'(by rw [hlen];exact hj)=[C.v (.int .i64 xs[j])]:=by subst hL;simp
    have e2:(L[j]'(by rw [hlen];exact hj))[0]'(by rw [e];simp)=C.v (.int .i64 xs[j]):=by simp [e]
    rw [e2] at h2
    rw [(rd_scalar (.c _ _ h2)).1]
    simp [List.getD,List.getElem?_eq_getElem hj]
   have hcell:∀ j,j<xs.length→w.cell? ⟨b,off+j,none⟩=some (.int .i64 (xs.getD j 0)):=fun j hj=>by
    have h1:=hc j 0 (by rw [hlen];exact hj) (by omega)
    rw [Nat.mul_one,Nat.add_zero] at h1
    rw [h1,hval j hj]
   refine ⟨some ⟨b,off,none⟩,cap,by rw [hlen],by rw [← hlen];exact hcap.2,.inr ⟨b,off,rfl,hI,hcell⟩,fun y' I' s' hII=>?_⟩
   refine @RD.c y' I' w s' _ _ (@RC.isl y' I' w s' b off cap 1 L yv (hII b hI) hl hc (fun i hi j hj=>?_) hcap)
   have e:L[i]=[C.v (.int .i64 (xs[i]'(by omega)))]:=by subst hL;simp
   have hj0:j=0:=by rw [e] at hj;simpa using hj
   subst hj0
   have e2:(L[i])[0]'hj=C.v (.int .i64 (xs[i]'(by omega))):=by simp [e]
   rw [e2,hval i (by omega)]
   have e3:xs.getD i 0=xs[i]'(by omega):=by simp [List.getD,List.getElem?_eq_getElem (show i<xs.length by omega)]
   rw [e3]
   exact @RC.v y' I' w Sg0 _ rfl
theorem formatLabelsI (xs:List Int) (hl:xs.length≤1000000) (h:labs xs=true):DC Tryz.prog 60 [.c (isI xs)] [] (fun r h=>r=DS (bstr (labT xs))∧h=[]) :=
 DC.ofBelow rfl fun I w s vs H hv=>by
  obtain ⟨v,rfl,hr⟩:=vs_one hv
  obtain ⟨a,cap,rfl,hx,hcase,hre⟩:=row_of hr
  have hal:Calls Tryz.prog 68 #[.slice a xs.length cap] w fun e w'=>e = .returned (.bool true)∧RowKit.Below w.heap.size w w':=by
   have hd:=@CtR.areLabels (ynAt w) xs (by have:=mx_eq;omega)
   rw [h] at hd
   exact DC.calls hd fun s'=>@RDs.one (ynAt w) _ _ _ _ _ (hre (ynAt w) _ s' H.imm)
  rcases hcase with rfl | ⟨b,off,rfl,hI,hc⟩
  ·exact (CtG.fmtLab_none a cap w hal).mono fun e w' ⟨h1,h2⟩=>⟨h1,h2⟩
  ·have hlab:∀ z ∈ xs,0≤z∧z≤3:=fun z hz=>by
    simp only [labs,List.all_eq_true,Bool.and_eq_true,decide_eq_true_eq] at h
    exact h z hz
   refine (CtG.fmtLab_any b off xs.length cap xs w (by omega) (Nat.le_refl _) (H.imm b hI) hlab hc hal).mono fun e w' ⟨h1,h2⟩=>⟨?_,h2⟩
   rw [h1,List.take_length];rfl
end Go.Proofs.YtfkhahkclgejnaaGreatDoor.CtD
