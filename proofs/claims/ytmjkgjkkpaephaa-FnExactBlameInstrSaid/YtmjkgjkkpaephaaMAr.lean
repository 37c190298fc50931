/- Contracts of functions of the program, one behind the other, as plain data: what each call returns and which blocks it leaves. -/
import Derived.Test.YtmjkgjkkpaephaaMFacts
import Derived.Test.YtmjkgjkkpaephaaMAh
import Derived.Test.YtmjkgjkkpaephaaMAj
import Derived.Test.YtmjkgjkkpaephaaMAk
import Derived.Test.YtmjkgjkkpaephaaMAm
import Derived.Test.YtmjkgjkkpaephaaMAn
import Derived.Test.YtmjkgjkkpaephaaMAq
import Derived.Test.YtmjkgjkkpaephaaMAi
set_option linter.unusedVariables false
set_option linter.unusedSimpArgs false
set_option maxHeartbeats 16000000
set_option maxRecDepth 100000
namespace Go.Proofs.Ytmjkgjkkpaephaa.CtD
open Go Go.CT CtF CtR
open CtL (In Cd kindsOf topOf fOK inOK endOK codeOK atC halt)
theorem shapeI0 (op:Int) (h:op<1∨13<op):DC Try.prog 113 [DI .i64 op] [] (fun r h=>r=DS ByteArray.empty∧h=[]):=by
 have hmx:=mx_eq
 have hw:=CtR.within op 1 13
 have hf:(decide (1≤op) && decide (op≤13))=false:=by rw [Bool.and_eq_false_iff];simp;omega
 rw [hf] at hw
 refine dcZ Try.func113 ?_
 simp only [go_sem]
 iterate 4 ((try (refine drvZ Try.func113 ?_;simp only [go_sem]));((with_reducible and_intros)<;>try exact sd);(try first | refine XK.p hw ok84 ?_ | refine XK.gp hw ok84 ?_))
 exact RetOb.plain (d:=DS _) ⟨rfl,rfl⟩ rfl
theorem fieldOkG (c : Cd) (h1 : c.vars.length ≤ mx) (h2 : c.arrays.length ≤ mx) (h3 : c.list.length ≤ mx) (k : Nat) (hk : k ≤ 6) (n : Int) :
 DC Try.prog 115 [.agg (cdC c),.c (.v (.int .u8 (ltr k).toNat)),DI .i64 n] [] (fun r h=>r=DB (fOK c.vars.length c.arrays.length c.list.length k n)∧h=[]):=by
 have hmx:=mx_eq
 have hw:=fun hi=>CtR.within n 0 hi
 have hw4:=CtR.within n 4 10
 obtain ⟨vs,ar,ls⟩:=c
 simp only at h1 h2 h3
 have ret:∀ (b:Bool) (hp:Hp),b=fOK vs.length ar.length ls.length k n→RetOb 0 (fun r h=>r=DB (fOK vs.length ar.length ls.length k n)∧h=[]) (DB b) hp:=fun b hp h=>RetOb.plain (d:=DB _) ⟨by rw [h],rfl⟩ rfl
 generalize hR:(fun (r:D) (h:List (Option (List C)))=>r=DB (fOK vs.length ar.length ls.length k n)∧h=[])=R at ret ⊢
 clear hR
 have key:k=0∨k=1∨k=2∨k=3∨k=4∨k=5∨k=6:=by omega
 unfold cdC
 rcases key with rfl | rfl | rfl | rfl | rfl | rfl | rfl
 ·rw [show (((ltr 0).toNat:Nat):Int)=45 from rfl]
  refine dcZ Try.func115 ?_
  simp only [go_sem]
  iterate 9 ((try (refine drvZ Try.func115 ?_;simp only [go_sem]));((with_reducible and_intros)<;>try exact sd))
  refine ret _ _ ?_
  rw [Bool.eq_iff_iff];simp [fOK,topOf];omega
 ·rw [show (((ltr 1).toNat:Nat):Int)=114 from rfl]
  have hw:=hw (13)
  generalize hB:(decide (0≤n) && decide (n≤13))=B at hw
  refine dcZ Try.func115 ?_
  simp only [go_sem]
  iterate 10 ((try (refine drvZ Try.func115 ?_;simp only [go_sem,Int.reduceLE,List.length_map]));((with_reducible and_intros)<;>try exact sd);(try first | refine XK.p hw ok84 ?_ | refine XK.gp hw ok84 ?_))
  exact ret _ _ (by rw [← hB];simp [fOK,topOf])
 ·rw [show (((ltr 2).toNat:Nat):Int)=110 from rfl]
  have hw:=hw (255)
  generalize hB:(decide (0≤n) && decide (n≤255))=B at hw
  refine dcZ Try.func115 ?_
  simp only [go_sem]
  iterate 10 ((try (refine drvZ Try.func115 ?_;simp only [go_sem,Int.reduceLE,List.length_map]));((with_reducible and_intros)<;>try exact sd);(try first | refine XK.p hw ok84 ?_ | refine XK.gp hw ok84 ?_))
  exact ret _ _ (by rw [← hB];simp [fOK,topOf])
 ·rw [show (((ltr 3).toNat:Nat):Int)=118 from rfl]
  have hw:=hw ((vs.length:Int) - 1)
  generalize hB:(decide (0≤n) && decide (n≤(vs.length:Int) - 1))=B at hw
  refine dcZ Try.func115 ?_
  simp only [go_sem]
  iterate 10 ((try (refine drvZ Try.func115 ?_;simp only [go_sem,Int.reduceLE,List.length_map]));((with_reducible and_intros)<;>try exact sd);(try first | refine XK.p hw ok84 ?_ | refine XK.gp hw ok84 ?_))
  exact ret _ _ (by rw [← hB];simp [fOK,topOf])
 ·rw [show (((ltr 4).toNat:Nat):Int)=97 from rfl]
  have hw:=hw ((ar.length:Int) - 1)
  generalize hB:(decide (0≤n) && decide (n≤(ar.length:Int) - 1))=B at hw
  refine dcZ Try.func115 ?_
  simp only [go_sem]
  iterate 10 ((try (refine drvZ Try.func115 ?_;simp only [go_sem,Int.reduceLE,List.length_map]));((with_reducible and_intros)<;>try exact sd);(try first | refine XK.p hw ok84 ?_ | refine XK.gp hw ok84 ?_))
  exact ret _ _ (by rw [← hB];simp [fOK,topOf])
 ·rw [show (((ltr 5).toNat:Nat):Int)=111 from rfl]
  have hw:=hw4
  generalize hB:(decide (4≤n) && decide (n≤10))=B at hw
  refine dcZ Try.func115 ?_
  simp only [go_sem]
  iterate 10 ((try (refine drvZ Try.func115 ?_;simp only [go_sem,Int.reduceLE,List.length_map]));((with_reducible and_intros)<;>try exact sd);(try first | refine XK.p hw ok84 ?_ | refine XK.gp hw ok84 ?_))
  exact ret _ _ (by rw [← hB];simp [fOK,topOf])
 ·rw [show (((ltr 6).toNat:Nat):Int)=105 from rfl]
  have hw:=hw ((ls.length:Int) - 1)
  generalize hB:(decide (0≤n) && decide (n≤(ls.length:Int) - 1))=B at hw
  refine dcZ Try.func115 ?_
  simp only [go_sem]
  iterate 10 ((try (refine drvZ Try.func115 ?_;simp only [go_sem,Int.reduceLE,List.length_map]));((with_reducible and_intros)<;>try exact sd);(try first | refine XK.p hw ok84 ?_ | refine XK.gp hw ok84 ?_))
  exact ret _ _ (by rw [← hB];simp [fOK,topOf])
theorem instrOkG (c : Cd) (h1 : c.vars.length ≤ mx) (h2 : c.arrays.length ≤ mx) (h3 : c.list.length ≤ mx) (x : In) :
 DC Try.prog 100 [.agg (cdC c),.agg (inX x)] [] (fun r h=>r=DB (inOK c.vars.length c.arrays.length c.list.length x)∧h=[]):=by
 have hmx:=mx_eq
 have hf:=fun k hk n=>fieldOkG c h1 h2 h3 k hk n
 have hfi:=fieldsI x
 have ret:∀ (b:Bool) (hp:Hp),b=inOK c.vars.length c.arrays.length c.list.length x→RetOb 0 (fun r h=>r=DB (inOK c.vars.length c.arrays.length c.list.length x)∧h=[]) (DB b) hp:=fun b hp h=>RetOb.plain (d:=DB _) ⟨by rw [h],rfl⟩ rfl
 generalize hR:(fun (r:D) (h:List (Option (List C)))=>r=DB (inOK c.vars.length c.arrays.length c.list.length x)∧h=[])=R at ret ⊢
 clear hR
 obtain ⟨op,a,b,c',d⟩:=x
 have hcx:cdC c=[isI c.vars,isI c.arrays,.isl 5 (c.list.map inX)]:=rfl
 have hlx:inX ⟨op,a,b,c',d⟩=[I64 op,I64 a,I64 b,I64 c',I64 d]:=rfl
 rw [hlx] at hfi ⊢
 simp only [hcx] at hf ⊢
 simp only at hfi
 generalize hLI:c.list.map inX=LI at *
 by_cases ho:op<1∨13<op
 ·have hsh:=shapeI0 op ho
  have hret:false=inOK c.vars.length c.arrays.length c.list.length ⟨op,a,b,c',d⟩:=by
   have hf0:(decide (1≤op) && decide (op≤13))=false:=by rw [Bool.and_eq_false_iff];simp;omega
   simp [inOK,hf0]
  have ret:=fun hp=>ret false hp hret
  have hse:(ByteArray.empty.toList == (ByteArray.toList { data:=#[] }))=true:=by simp [toList_nil]
  have hx0:([[I64 a],[I64 b],[I64 c'],[I64 d]]:List (List C))[0]? = some [I64 a]:=rfl
  refine dcZ Try.func100 ?_
  simp only [go_sem]
  iterate 5 ((try (refine drvZ Try.func100 ?_;simp only [go_sem]));((with_reducible and_intros)<;>try exact sd);(try first | refine XK.p hsh ok113 ?_ | refine XK.gp hsh ok113 ?_ | refine XK.p hfi ok114 ?_ | refine XK.gp hfi ok114 ?_))
  refine Go.loop ?_
  refine drvL Try.func100 ?_
  simp only [go_sem,hx0,hse]
  iterate 6 ((try (refine drvZ Try.func100 ?_;simp only [go_sem,hx0,hse]));((with_reducible and_intros)<;>try exact sd);(try first | refine XK.gs (DB false) ?_))
  exact ret _
 have o1:1≤op:=by omega
 have o2:op≤13:=by omega
 have hsh:=shapeI op ⟨o1,o2⟩
 have hin:inOK c.vars.length c.arrays.length c.list.length ⟨op,a,b,c',d⟩=(fOK c.vars.length c.arrays.length c.list.length ((kindsOf op).getD 0 0) a && fOK c.vars.length c.arrays.length c.list.length ((kindsOf op).getD 1 0) b && fOK c.vars.length c.arrays.length c.list.length ((kindsOf op).getD 2 0) c' && fOK c.vars.length c.arrays.length c.list.length ((kindsOf op).getD 3 0) d):=by
  unfold inOK
  rw [show decide (1≤op)=true by simp;omega,show decide (op≤13)=true by simp;omega]
  rfl
 rw [hin] at ret
 have retF:∀ (i:Nat) (hp:Hp),i<4→fOK c.vars.length c.arrays.length c.list.length ((kindsOf op).getD i 0) ([a,b,c',d].getD i 0)=false→RetOb 0 R (DB false) hp:=fun i hp hi h=>by
  refine ret _ _ ?_
  have:i=0∨i=1∨i=2∨i=3:=by omega
  rcases this with rfl | rfl | rfl | rfl
  ·rw [show fOK c.vars.length c.arrays.length c.list.length ((kindsOf op).getD 0 0) a=false from h];simp only [Bool.and_false,Bool.false_and]
  ·rw [show fOK c.vars.length c.arrays.length c.list.length ((kindsOf op).getD 1 0) b=false from h];simp only [Bool.and_false,Bool.false_and]
  ·rw [show fOK c.vars.length c.arrays.length c.list.length ((kindsOf op).getD 2 0) c'=false from h];simp only [Bool.and_false,Bool.false_and]
  ·rw [show fOK c.vars.length c.arrays.length c.list.length ((kindsOf op).getD 3 0) d=false from h];simp only [Bool.and_false]
 have retT:∀ (hp:Hp),(∀ i:Nat,i<4→fOK c.vars.length c.arrays.length c.list.length ((kindsOf op).getD i 0) ([a,b,c',d].getD i 0)=true)→RetOb 0 R (DB true) hp:=fun hp h=>by
  refine ret _ _ ?_
  rw [show fOK c.vars.length c.arrays.length c.list.length ((kindsOf op).getD 0 0) a=true from h 0 (by omega),show fOK c.vars.length c.arrays.length c.list.length ((kindsOf op).getD 1 0) b=true from h 1 (by omega),show fOK c.vars.length c.arrays.length c.list.length ((kindsOf op).getD 2 0) c'=true from h 2 (by omega),show fOK c.vars.length c.arrays.length c.list.length ((kindsOf op).getD 3 0) d=true from h 3 (by omega)];rfl
 clear ret hin
 have hsz:(shp op).size=4:=rfl
 have hse:((shp op).toList == (ByteArray.toList { data:=#[] }))=false:=shp_ne op ⟨o1,o2⟩
 refine dcZ Try.func100 ?_
 simp only [go_sem]
 iterate 5 ((try (refine drvZ Try.func100 ?_;simp only [go_sem]));((with_reducible and_intros)<;>try exact sd);(try first | refine XK.p hsh ok113 ?_ | refine XK.gp hsh ok113 ?_ | refine XK.p hfi ok114 ?_ | refine XK.gp hfi ok114 ?_))
 refine Go.loopQ (fun i : Nat => [(2, .c (.ptr 0 0)), (5, DS (shp op)), (12, .c (.isl 1 [[I64 a], [I64 b], [I64 c'], [I64 d]])), (13, DI .i64 4), (14, DI .i64 i)]) (fun _ => [(0, some [isI c.vars, isI c.arrays, .isl 5 LI])])
  4096 (fun i=>i≤4∧∀ j:Nat,j<i→fOK c.vars.length c.arrays.length c.list.length ((kindsOf op).getD j 0) ([a,b,c',d].getD j 0)=true) (fun i=>4 - i) ?_ 0 some [] _ ⟨by omega,fun j hj=>by omega⟩ ?_
 ·rintro i ⟨hi,hI⟩ again
  rcases Nat.lt_or_ge i 4 with hlt | hge
  ·have hx:[[I64 a],[I64 b],[I64 c'],[I64 d]][i]? = some [I64 ([a,b,c',d].getD i 0)]:=by
    have:i=0∨i=1∨i=2∨i=3:=by omega
    rcases this with rfl | rfl | rfl | rfl<;>rfl
   have hc:=hf _ (kinds_le op i) ([a,b,c',d].getD i 0)
   have hat:=shp_at op i hlt
   have hlt':(i:Int)<4:=by omega
   have retF:=fun hp=>retF i hp hlt
   have hst:∀ q:fOK c.vars.length c.arrays.length c.list.length ((kindsOf op).getD i 0) ([a,b,c',d].getD i 0)=true,i+1≤4∧∀ j:Nat,j<i+1→fOK c.vars.length c.arrays.length c.list.length ((kindsOf op).getD j 0) ([a,b,c',d].getD j 0)=true:=fun q=>⟨hlt,fun j hj=>by
    by_cases e:j=i
    ·subst e;exact q
    ·exact hI j (by omega)⟩
   generalize [a,b,c',d].getD i 0=n at *
   generalize (kindsOf op).getD i 0=k at *
   generalize [[I64 a],[I64 b],[I64 c'],[I64 d]]=fl at *
   generalize shp op=sp at *
   cases hq:fOK c.vars.length c.arrays.length c.list.length k n with
   | true =>
    rw [hq] at hc
    have hs:=hst hq
    refine drvL Try.func100 ?_
    simp only [go_sem,hlt']
    iterate 5 ((try (refine drvZ Try.func100 ?_;simp only [go_sem,hx,hlt',hat,hsz,hse]));((with_reducible and_intros)<;>try exact sd);(try first | refine XK.p hc ok115 ?_ | refine XK.gp hc ok115 ?_))
    refine again (i+1) some [] _ hs (by omega) ?_
    simp only [go_sem,TmOK,DM,DMs,CM,CMs,forall_eq,exists_eq_left,Mq,HpOK,LowOK]
    try simp
   | false =>
    rw [hq] at hc
    refine drvL Try.func100 ?_
    simp only [go_sem,hlt']
    iterate 5 ((try (refine drvZ Try.func100 ?_;simp only [go_sem,hx,hlt',hat,hsz,hse]));((with_reducible and_intros)<;>try exact sd);(try first | refine XK.p hc ok115 ?_ | refine XK.gp hc ok115 ?_))
    exact retF _ hq
  ·obtain rfl:i=4:=by omega
   have h44:(((4:Nat):Int)<4)=False:=eq_false (by decide)
   refine drvL Try.func100 ?_
   simp only [go_sem,h44]
   iterate 3 ((try (refine drvZ Try.func100 ?_;simp only [go_sem,h44]));((with_reducible and_intros)<;>try exact sd))
   exact retT _ hI
 ·simp only [go_sem,TmOK,DM,DMs,CM,CMs,forall_eq,exists_eq_left,Mq,HpOK,LowOK]
  simp
  try exact fun a _=>rfl
end Go.Proofs.Ytmjkgjkkpaephaa.CtD
namespace Go.Proofs.Ytmjkgjkkpaephaa.CtD
open Go Go.CT CtF CtR
open CtL (In Cd kindsOf topOf fOK inOK endOK codeOK atC halt runC blmC)
theorem cvFnG (c : Cd) (h1 : c.vars.length ≤ mx) (h2 : c.arrays.length ≤ mx) (h3 : c.list.length ≤ mx) (x : In) :
 DC Try.prog 99 [.agg (inX x),.c (.eptr (cdC c))] [] (fun r h=>r=DB (!inOK c.vars.length c.arrays.length c.list.length x)∧h=[]):=by
 have hio:=instrOkG c h1 h2 h3 x
 generalize inOK c.vars.length c.arrays.length c.list.length x=B at *
 unfold cdC at hio ⊢
 obtain ⟨op,a,b,c',d⟩:=x
 unfold inX at hio ⊢
 refine dcZ Try.func99 ?_
 simp only [go_sem]
 iterate 4 ((try (refine drvZ Try.func99 ?_;simp only [go_sem]));((with_reducible and_intros)<;>try exact sd);(try first | refine XK.p hio ok100 ?_ | refine XK.gp hio ok100 ?_))
 exact RetOb.plain (d:=DB (!B)) ⟨rfl,rfl⟩ rfl
def ixB (p : In → Bool) : List In → Int → Int
 | [],_ => -1
 | x :: r,n=>if p x then ixB p r (n+1) else n
theorem ixB_all (p : In → Bool) : ∀ (l : List In) (n : Int), 0 ≤ n → decide (0 ≤ ixB p l n) = !l.all p
 | [],n,h=>rfl
 | x :: r,n,h=>by
  cases hx:p x with
  | true=>simp only [ixB,hx,if_true,List.all_cons,Bool.true_and];exact ixB_all p r (n+1) (by omega)
  | false=>simp [ixB,hx,h]
theorem indexFuncG (cc : List C) (p : In → Bool) (xs : List In) (hl : xs.length ≤ mx) (hg : ∀ x, DC Try.prog 99 [.agg (inX x), .c (.eptr cc)] [] (fun r h => r = DB (!p x) ∧ h = [])) :
 DC Try.prog 112 [.c (.isl 5 (xs.map inX)),.c (.clo 99 [.eptr cc])] [] (fun d h=>d=DI .i64 (ixB p xs 0)∧h=[]):=by
 have hmx:=mx_eq
 have ret:∀ (v:Int) (hp:Hp),v=ixB p xs 0→RetOb 0 (fun d h=>d=DI .i64 (ixB p xs 0)∧h=[]) (DI .i64 v) hp:=fun v hp h=>RetOb.plain (d:=DI .i64 _) ⟨by rw [h],rfl⟩ rfl
 generalize hR:(fun (d:D) (h:List (Option (List C)))=>d=DI .i64 (ixB p xs 0)∧h=[])=R at ret ⊢
 clear hR
 refine dcZ Try.func112 ?_
 simp only [go_sem]
 ((try (refine drvZ Try.func112 ?_;simp only [go_sem]));((with_reducible and_intros)<;>try exact sd))
 refine Go.loopQ (fun i:Nat=>[(0,.c (.isl 5 (xs.map inX))),(1,.c (.clo 99 [.eptr cc])),(7,DI .i64 xs.length),(8,DI .i64 i)]) (fun _=>[]) 1024 (fun i=>i≤xs.length∧ixB p (xs.drop i) i=ixB p xs 0) (fun i=>xs.length - i) ?_ 0 some [] _ ⟨Nat.zero_le _,rfl⟩ ?_
 ·rintro i ⟨hi,hI⟩ again
  rcases Nat.lt_or_ge i xs.length with hlt | hge
  ·obtain ⟨x,hx⟩:∃ x,xs[i]? = some x:=⟨xs[i],by simp [hlt]⟩
   have hgx:=hg x
   rw [List.drop_eq_getElem_cons hlt,(List.getElem?_eq_some_iff.1 hx).2] at hI
   cases hpx:p x with
   | true =>
    rw [hpx] at hgx
    simp only [ixB,hpx,if_true] at hI
    obtain ⟨op,a,b,c,d⟩:=x
    simp only [inX] at hgx
    refine drvL Try.func112 ?_
    simp only [go_sem,hx,hlt,inX]
    iterate 5 ((try (refine drvZ Try.func112 ?_;simp only [go_sem,hx,hlt,inX]));((with_reducible and_intros)<;>try exact sd);(try first | refine XK.p hgx ok99 ?_ | refine XK.gp hgx ok99 ?_))
    refine again (i+1) some [] _ ⟨hlt,by rw [← hI];rfl⟩ (by omega) ?_
    simp only [go_sem,TmOK,DM,DMs,CM,CMs,forall_eq,exists_eq_left,Mq,HpOK,LowOK]
    first | done | (simp;done) | (simp;exact CM.kf rfl) | exact CM.kf rfl
   | false =>
    rw [hpx] at hgx
    simp only [ixB,hpx] at hI
    obtain ⟨op,a,b,c,d⟩:=x
    simp only [inX] at hgx
    refine drvL Try.func112 ?_
    simp only [go_sem,hx,hlt,inX]
    iterate 5 ((try (refine drvZ Try.func112 ?_;simp only [go_sem,hx,hlt,inX]));((with_reducible and_intros)<;>try exact sd);(try first | refine XK.p hgx ok99 ?_ | refine XK.gp hgx ok99 ?_))
    exact ret _ _ (by rw [← hI];rfl)
  ·have hn:¬ i<xs.length:=by omega
   have e1:xs.drop i=[]:=List.drop_of_length_le (by omega)
   refine drvL Try.func112 ?_
   simp only [go_sem,hn]
   iterate 3 ((try (refine drvZ Try.func112 ?_;simp only [go_sem,hn]));((with_reducible and_intros)<;>try exact sd))
   exact ret _ _ (by rw [← hI,e1];rfl)
 ·simp only [go_sem,TmOK,DM,DMs,CM,CMs,forall_eq,exists_eq_left,Mq,HpOK,LowOK]
  first | done | (simp;done) | (simp;exact CM.kf rfl) | exact CM.kf rfl
theorem containsFuncG (cc : List C) (p : In → Bool) (xs : List In) (hl : xs.length ≤ mx) (hg : ∀ x, DC Try.prog 99 [.agg (inX x), .c (.eptr cc)] [] (fun r h => r = DB (!p x) ∧ h = [])) :
 DC Try.prog 98 [.c (.isl 5 (xs.map inX)),.c (.clo 99 [.eptr cc])] [] (fun d h=>d=DB (!xs.all p)∧h=[]):=by
 have hif:=indexFuncG cc p xs hl hg
 have hal:=ixB_all p xs 0 (by omega)
 generalize ixB p xs 0=k at *
 refine dcZ Try.func98 ?_
 simp only [go_sem]
 iterate 3 ((try (refine drvZ Try.func98 ?_;simp only [go_sem]));((with_reducible and_intros)<;>try exact sd);(try first | refine XK.p hif ok112 ?_ | refine XK.gp hif ok112 ?_))
 exact RetOb.plain (d:=DB _) ⟨by rw [← hal],rfl⟩ rfl
theorem codeValidG0 (c:Cd) (h1:c.vars.length≤2000000) (h2:c.arrays.length≤2000000) (h3:c.list.length≤100000000) (h:codeOK c=false):DC Try.prog 78 [.agg (cdC c)] [] (fun r h=>r=DB false∧h=[]):=by
 have hmx:=mx_eq
 have hfn:=fun x=>cvFnG c (by omega) (by omega) (by omega) x
 have ret:∀ hp:Hp,RetOb 0 (fun r h=>r=DB false∧h=[]) (DB false) hp:=fun hp=>RetOb.plain (d:=DB false) ⟨rfl,rfl⟩ rfl
 generalize hR:(fun (r:D) (h:List (Option (List C)))=>r=DB false∧h=[])=R at ret ⊢
 clear hR
 obtain ⟨vs,ar,l⟩:=c
 simp only at h1 h2 h3 hfn
 have hcf:=containsFuncG (cdC ⟨vs,ar,l⟩) (inOK vs.length ar.length l.length) l (by omega) hfn
 have hde:=declared vs ar (by omega) (by omega)
 have hw:=CtR.within l.length 1 400
 unfold codeOK at h
 simp only at h
 unfold cdC at hcf ⊢
 cases hh:headsOK vs ar with
 | false =>
  rw [hh] at hde
  clear hw hcf
  refine dcZ Try.func78 ?_
  simp only [go_sem]
  iterate 8 ((try (refine drvZ Try.func78 ?_;simp only [go_sem,List.length_map]));((with_reducible and_intros)<;>try exact sd);(try first | refine XK.p hde ok97 ?_ | refine XK.gp hde ok97 ?_ | refine XK.gs (DB false) ?_))
  exact ret _
 | true =>
  rw [hh] at hde h
  simp only [Bool.true_and] at h
  cases hb:(decide (1≤(l.length:Int)) && decide ((l.length:Int)≤400)) with
  | false =>
   rw [hb] at hw
   clear hcf
   refine dcZ Try.func78 ?_
   simp only [go_sem]
   iterate 8 ((try (refine drvZ Try.func78 ?_;simp only [go_sem,List.length_map]));((with_reducible and_intros)<;>try exact sd);(try first | refine XK.p hde ok97 ?_ | refine XK.gp hde ok97 ?_ | refine XK.p hw ok84 ?_ | refine XK.gp hw ok84 ?_ | refine XK.gs (DB false) ?_))
   exact ret _
  | true =>
   rw [hb] at hw h
   simp only [Bool.true_and] at h
   simp only [Bool.and_eq_true,decide_eq_true_eq] at hb
   obtain ⟨x,hx⟩:∃ x,l[l.length - 1]? = some x:=⟨l[l.length - 1]'(by omega),by simp⟩
   have hat:atC l (l.length - 1)=x:=by simp [atC,List.getD,hx]
   simp only [endOK,hat] at h
   have hpos:((l.length:Int) - 1).toNat=l.length - 1:=by omega
   have hget:(l.map inX)[l.length - 1]? = some (inX x):=by rw [List.getElem?_map,hx];rfl
   generalize hal:l.all (inOK vs.length ar.length l.length)=al at *
   obtain ⟨op,xa,xb,xc,xd⟩:=x
   simp only at h
   refine dcZ Try.func78 ?_
   simp only [go_sem]
   iterate 6 ((try (refine drvZ Try.func78 ?_;simp only [go_sem,List.length_map]));((with_reducible and_intros)<;>try exact sd);(try first | refine XK.p hde ok97 ?_ | refine XK.gp hde ok97 ?_ | refine XK.p hw ok84 ?_ | refine XK.gp hw ok84 ?_))
   refine XK.subQ (r := some) (fz := [0]) (tl := [(1, .c (.eptr [isI vs, isI ar, .isl 5 (l.map inX)])), (2, DB false), (17, DB false), (19, .when true (.c (.isl 5 (l.map inX)))), (20, .when true (.c (.clo 99 [.eptr [isI vs, isI ar, .isl 5 (l.map inX)]])))])
    (hl:=[]) ?_ ?_
   ·simp only [go_sem,TmOK,DM,DMs,CM,CMs,forall_eq,exists_eq_left,Mq,HpOK,LowOK]
    simp
   cases al with
   | false =>
    iterate 9 ((try (refine drvZ Try.func78 ?_;simp only [go_sem,List.length_map]));((with_reducible and_intros)<;>try exact sd);(try first | refine XK.p hcf ok98 ?_ | refine XK.gp hcf ok98 ?_))
    exact ret _
   | true =>
    simp only [Bool.true_and,Bool.or_eq_false_iff] at h
    have e1:=h.1
    have e2:=h.2
    iterate 9 ((try (refine drvZ Try.func78 ?_;simp only [go_sem,List.length_map,hpos,hget,inX,e1,e2]));((with_reducible and_intros)<;>try exact sd);(try first | refine XK.p hcf ok98 ?_ | refine XK.gp hcf ok98 ?_))
    exact ret _
theorem startI0 (c:Cd) (m:Mm) (h1:c.vars.length≤2000000) (h2:c.arrays.length≤2000000) (h3:c.list.length≤100000000) (h:codeOK c=false):DC Try.prog 62 [.agg (cdC c),.agg m.cells] [] (fun r h=>r = .tup [.agg [I64 0,.v (.slice none 0 0),.v (.slice none 0 0),.v (.slice none 0 0)],DB false]∧h=[]):=by
 have hmx:=mx_eq
 have hcv:=codeValidG0 c h1 h2 h3 h
 obtain ⟨vs,ar,l⟩:=c
 obtain ⟨va,arr⟩:=m
 simp only [cdC,ints] at hcv ⊢
 refine dcZ Try.func62 ?_
 simp only [go_sem,Mm.cells]
 iterate 6 ((try (refine drvZ Try.func62 ?_;simp only [go_sem,Mm.cells]));((with_reducible and_intros)<;>try exact sd);(try first | refine XK.p hcv ok78 ?_ | refine XK.gp hcv ok78 ?_ | refine XK.gs (DB false) ?_))
 refine RetOb.ofQ (fun _=>none) [] (.tup [.agg [I64 0,.v (.slice none 0 0),.v (.slice none 0 0),.v (.slice none 0 0)],DB false]) [] ?_ ⟨rfl,rfl⟩ (by simp)
 simp [enumL,DM,DMs,CM,CMs,HpOK,LowOK]
theorem ranI0 (c:Cd) (m:Mm) (h1:c.vars.length≤2000000) (h2:c.arrays.length≤2000000) (h3:c.list.length≤100000000) (h:codeOK c=false):DC Try.prog 42 [.agg (cdC c),.agg m.cells] [] (fun r h=>r = .tup [.c (.v (.pointer none)),.c (.v (.slice none 0 0)),DB false]∧h=[]):=by
 have hmx:=mx_eq
 have hst:=startI0 c m h1 h2 h3 h
 obtain ⟨vs,ar,l⟩:=c
 obtain ⟨va,arr⟩:=m
 simp only [cdC,ints] at hst ⊢
 refine dcZ Try.func42 ?_
 simp only [go_sem,Mm.cells]
 iterate 5 ((try (refine drvZ Try.func42 ?_;simp only [go_sem,Mm.cells]));((with_reducible and_intros)<;>try exact sd);(try first | refine XK.p hst ok62 ?_ | refine XK.gp hst ok62 ?_))
 refine RetOb.ofQ (fun _=>none) [] (.tup [.c (.v (.pointer none)),.c (.v (.slice none 0 0)),DB false]) [] ?_ ⟨rfl,rfl⟩ (by simp)
 simp [enumL,DM,DMs,CM,CMs,HpOK,LowOK]
theorem runCodeG (c:Cd) (m:Mm) (h1:c.vars.length≤2000000) (h2:c.arrays.length≤2000000) (h3:c.list.length≤100000000):DC Try.prog 16 [.agg (cdC c),.agg m.cells] [] (fun r h=>r = .tup [.agg (runC c m).1.cells,.c (trD (runC c m).2.1),DB (runC c m).2.2]∧h=[]):=by
 cases hco:codeOK c with
 | true=>exact runCodeI c m hco
 | false =>
  have hmx:=mx_eq
  have hrn:=ranI0 c m h1 h2 h3 hco
  have hrf:runC c m=(⟨[],[]⟩,[],false):=by unfold runC;rw [hco];rfl
  generalize hR:(fun (r:D) (h:List (Option (List C)))=>r = .tup [.agg (runC c m).1.cells,.c (trD (runC c m).2.1),DB (runC c m).2.2]∧h=[])=R
  obtain ⟨vs,ar,l⟩:=c
  obtain ⟨va,arr⟩:=m
  simp only [cdC,ints] at hrn ⊢
  refine dcZ Try.func16 ?_
  simp only [go_sem,Mm.cells]
  iterate 6 ((try (refine drvZ Try.func16 ?_;simp only [go_sem,Mm.cells]));((with_reducible and_intros)<;>try exact sd);(try first | refine XK.p hrn ok42 ?_ | refine XK.gp hrn ok42 ?_))
  refine RetOb.noRun ?_ (.inl rfl)
  subst hR
  rw [hrf]
  exact ⟨rfl,rfl⟩
theorem blameInstrG (c:Cd) (a b:Mm) (h1:c.vars.length≤2000000) (h2:c.arrays.length≤2000000) (h3:c.list.length≤100000000):DC Try.prog 12 [.agg (cdC c),.agg a.cells,.agg b.cells] [] (fun r h=>r=DI .i64 (blmC c a b)∧h=[]) :=
 blameInstrOf c a b (runCodeG c a h1 h2 h3) (runCodeG c b h1 h2 h3)
end Go.Proofs.Ytmjkgjkkpaephaa.CtD
namespace Go.Proofs.Ytmjkgjkkpaephaa.CtD
open Go Go.CT CtF CtR
open CtL (In Cd)
def szC (c:Cd):Nat:=c.vars.length+c.arrays.length+c.list.length
structure CdB (c : Cd) : Prop where
 nv:c.vars.length≤mx
 na:c.arrays.length≤mx
 nl:c.list.length≤mx
structure CdN (c : Cd) : Prop where
 nv:c.vars.length≤1048576
 na:c.arrays.length≤1048576
 nl:c.list.length≤1048576
theorem cdN_of {c:Cd} (h:szC c≤1048576):CdN c:=by
 unfold szC at h
 exact ⟨by omega,by omega,by omega⟩
theorem in_kf (x:In):∀ c ∈ inX x,kf c=true:=by simp [inX,kf]
theorem szInstrS (xs:List In) (hl:xs.length≤mx) (left:Int) (h0:0≤left) (h1:left≤1048576):DC Try.prog 24 [.c (.isl 5 (xs.map inX)),DI .i64 left] [] (fun r h=>r=DI .i64 (subZ left xs.length)∧h=[]):=by
 have hmx:=mx_eq
 have ret:∀ (v:Int) (hp:Hp),v=subZ left xs.length→RetOb 0 (fun r h=>r=DI .i64 (subZ left xs.length)∧h=[]) (DI .i64 v) hp:=fun v hp h=>RetOb.plain (d:=DI .i64 _) ⟨by rw [h],rfl⟩ rfl
 generalize hR:(fun (r:D) (h:List (Option (List C)))=>r=DI .i64 (subZ left xs.length)∧h=[])=R at ret ⊢
 clear hR
 by_cases hq:(xs.length:Int)≤left
 ·have g:(left - (xs.length:Int)<0)=False:=eq_false (by omega)
  refine dcZ Try.func24 ?_
  simp only [go_sem,List.length_map,g]
  iterate 4 ((try (refine drvZ Try.func24 ?_;simp only [go_sem,List.length_map,g]));((with_reducible and_intros)<;>try exact sd))
  exact ret _ _ (by rw [subZ,if_pos hq])
 ·have g:(left - (xs.length:Int)<0)=True:=eq_true (by omega)
  refine dcZ Try.func24 ?_
  simp only [go_sem,List.length_map,g]
  iterate 4 ((try (refine drvZ Try.func24 ?_;simp only [go_sem,List.length_map,g]));((with_reducible and_intros)<;>try exact sd))
  exact ret _ _ (by rw [subZ,if_neg hq])
theorem eqInstrSOf (l:List (In)) (hl:l.length≤mx) (hc:∀ x ∈ l,DC Try.prog 54 [.agg (inX x),.agg (inX x)] [] (fun r h=>r=DB true∧h=[])):DC Try.prog 34 [.c (.isl 5 ((l.map inX))),.c (.isl 5 ((l.map inX)))] [] (fun r h=>r=DB true∧h=[]):=by
 have hmx:=mx_eq
 have ret:∀ hp:Hp,RetOb 0 (fun r h=>r=DB true∧h=[]) (DB true) hp:=fun hp=>RetOb.plain (d:=DB true) ⟨rfl,rfl⟩ rfl
 generalize hR:(fun (r:D) (h:List (Option (List C)))=>r=DB true∧h=[])=R at ret ⊢
 clear hR
 have hrl:((l.map inX)).length=l.length:=by simp [List.length_map]
 have hrx:∀ (i:Nat) x,l[i]? = some x→True:=fun _ _ _=>trivial
 refine dcZ Try.func34 ?_
 simp only [go_sem,hrl,bne_self_eq_false]
 iterate 4 ((try (refine drvZ Try.func34 ?_;simp only [go_sem,hrl,bne_self_eq_false]));((with_reducible and_intros)<;>try exact sd))
 refine Go.loopQ (fun i:Nat=>[(0,.c (.isl 5 ((l.map inX)))),(1,.c (.isl 5 ((l.map inX)))),(5,DI .i64 i)]) (fun _=>[]) 1024 (fun i=>i≤l.length) (fun i=>l.length - i) ?_ 0 some [] _ (by omega) ?_
 ·intro i hi again
  rcases Nat.lt_or_ge i l.length with hlt | hge
  ·obtain ⟨x,hx⟩:∃ x,l[i]? = some x:=⟨l[i],by simp [hlt]⟩
   have hcx:=hc x (List.mem_of_getElem? hx)
   obtain ⟨o0,a0,b0,c0,d0⟩:=x
   have hxl:((l.map inX))[i]? = some [I64 o0,I64 a0,I64 b0,I64 c0,I64 d0]:=by rw [List.getElem?_map,hx];rfl
   simp only [inX] at hcx
   generalize hRW:(l.map inX)=rows at *
   refine drvL Try.func34 ?_
   simp only [go_sem,hrl,hlt,hxl,bne_self_eq_false]
   iterate 6 ((try (refine drvZ Try.func34 ?_;simp only [go_sem,hrl,hlt,hxl,bne_self_eq_false]));((with_reducible and_intros)<;>try exact sd);(try first | refine XK.p hcx ok54 ?_ | refine XK.gp hcx ok54 ?_))
   refine again (i+1) some [] _ hlt (by omega) ?_
   simp only [go_sem,TmOK,DM,DMs,CM,CMs,forall_eq,exists_eq_left,Mq,HpOK,LowOK]
   try simp
  ·have hn:¬ i<l.length:=by omega
   generalize hRW:(l.map inX)=rows at *
   refine drvL Try.func34 ?_
   simp only [go_sem,hrl,hn]
   iterate 3 ((try (refine drvZ Try.func34 ?_;simp only [go_sem,hrl,hn]));((with_reducible and_intros)<;>try exact sd))
   exact ret _
 ·simp only [go_sem,TmOK,DM,DMs,CM,CMs,forall_eq,exists_eq_left,Mq,HpOK,LowOK]
  try simp
theorem eqInstrOf (x:In)  : DC Try.prog 54 [.agg (inX x),.agg (inX x)] [] (fun r h=>r=DB true∧h=[]):=by
 have hmx:=mx_eq
 have ret:∀ hp:Hp,RetOb 0 (fun r h=>r=DB true∧h=[]) (DB true) hp:=fun hp=>RetOb.plain (d:=DB true) ⟨rfl,rfl⟩ rfl
 generalize hR:(fun (r:D) (h:List (Option (List C)))=>r=DB true∧h=[])=R at ret ⊢
 clear hR
 obtain ⟨op,a,b,c',d⟩:=x
 unfold inX
 refine dcZ Try.func54 ?_
 simp only [go_sem,bne_self_eq_false]
 iterate 14 ((try (refine drvZ Try.func54 ?_;simp only [go_sem,bne_self_eq_false]));((with_reducible and_intros)<;>try exact sd))
 exact ret _
theorem eqCodeOf (c:Cd) (hv:DC Try.prog 33 [.c (isI c.vars),.c (isI c.vars)] [] (fun r h=>r=DB true∧h=[])) (ha:DC Try.prog 33 [.c (isI c.arrays),.c (isI c.arrays)] [] (fun r h=>r=DB true∧h=[])) (hb:DC Try.prog 34 [.c (.isl 5 (c.list.map inX)),.c (.isl 5 (c.list.map inX))] [] (fun r h=>r=DB true∧h=[])):DC Try.prog 13 [.agg (cdC c),.agg (cdC c)] [] (fun r h=>r=DB true∧h=[]):=by
 have hmx:=mx_eq
 have ret:∀ hp:Hp,RetOb 0 (fun r h=>r=DB true∧h=[]) (DB true) hp:=fun hp=>RetOb.plain (d:=DB true) ⟨rfl,rfl⟩ rfl
 generalize hR:(fun (r:D) (h:List (Option (List C)))=>r=DB true∧h=[])=R at ret ⊢
 clear hR
 obtain ⟨vs,ar,l⟩:=c
 simp only [cdC] at *
 refine dcZ Try.func13 ?_
 simp only [go_sem,bne_self_eq_false]
 iterate 14 ((try (refine drvZ Try.func13 ?_;simp only [go_sem,bne_self_eq_false]));((with_reducible and_intros)<;>try exact sd);(try first | refine XK.p hv ok33 ?_ | refine XK.gp hv ok33 ?_ | refine XK.p ha ok33 ?_ | refine XK.gp ha ok33 ?_ | refine XK.p hb ok34 ?_ | refine XK.gp hb ok34 ?_))
 exact ret _
theorem toInstrSOf (l:List (In)) (hl:l.length≤1048576) (hc:∀ x ∈ l,DC Try.prog 53 [.agg (inX x)] [] (fun r h=>r = .agg (inX x)∧h=[])):DC Try.prog 30 [.c (.isl 5 ((l.map inX)))] [] (fun r h=>r = .c (.isl 5 ((l.map inX)))∧h=[]):=by
 have hmx:=mx_eq
 have hrl:((l.map inX)).length=l.length:=by simp [List.length_map]
 have hrw:∀ x ∈ ((l.map inX)),x.length=5:=fun x hx=>by obtain ⟨e,_,rfl⟩:=List.mem_map.1 hx;rfl
 have hrk:∀ x ∈ ((l.map inX)),∀ c ∈ x,kf c=true:=fun x hx=>by obtain ⟨e,_,rfl⟩:=List.mem_map.1 hx;exact in_kf e
 have ret:∀ (k n:Nat) (cs:List C) (hp:Hp),hp k=some (some cs)→cs=((l.map inX)).flatten→n=l.length→RetOb 0 (fun r h=>r = .c (.isl 5 ((l.map inX)))∧h=[]) (.c (.msl k 5 0 n)) hp:=fun k n cs hp h1 h2 h3=>RetOb.frozen (xs:=(l.map inX)) ⟨rfl,rfl⟩ (by rw [h1,h2]) (by rw [h3,hrl]) hrw hrk
 generalize hR:(fun (r:D) (h:List (Option (List C)))=>r = .c (.isl 5 ((l.map inX)))∧h=[])=R at ret ⊢
 clear hR
 have hrx:∀ (i:Nat) x,l[i]? = some x→True:=fun _ _ _=>trivial
 have flr:∀ i,i≤l.length→((((l.map inX)).take i).flatten).length=i * 5:=fun i hi=>by
  have:=List.length_flatten (L:=((l.map inX)).take i)
  rw [this,show ((((l.map inX)).take i).map List.length)=List.replicate i 5 from List.eq_replicate_iff.2 ⟨by simp [hrl];omega,fun b hb=>by obtain ⟨x,hx,rfl⟩:=List.mem_map.1 hb;exact hrw x (List.mem_of_mem_take hx)⟩]
  simp
 have hzk:∀ c ∈ ([I64 0,I64 0,I64 0,I64 0,I64 0]:List C),kf c=true:=by simp [kf]
 have hbk0:∀ c ∈ (List.replicate l.length ([I64 0,I64 0,I64 0,I64 0,I64 0]:List C)).flatten,kf c=true:=fun c hc=>by
  obtain ⟨y,hy,h2⟩:=List.mem_flatten.1 hc
  rw [List.eq_of_mem_replicate hy] at h2
  exact hzk c h2
 refine dcZ Try.func30 ?_
 simp only [go_sem,hrl]
 iterate 4 ((try (refine drvZ Try.func30 ?_;simp only [go_sem,hrl]));((with_reducible and_intros)<;>try exact sd))
 refine Go.loopQ (fun i:Nat=>[(0,.c (.isl 5 ((l.map inX)))),(3,.c (.msl 192 5 0 l.length)),(4,DI .i64 i)]) (fun i=>[(192,some ((((l.map inX)).take i).flatten++(List.replicate (l.length - i) [I64 0,I64 0,I64 0,I64 0,I64 0]).flatten))]) 1024 (fun i=>i≤l.length) (fun i=>l.length - i) ?_ 0 some [] _ (by omega) ?_
 ·intro i hi again
  rcases Nat.lt_or_ge i l.length with hlt | hge
  ·obtain ⟨x,hx⟩:∃ x,l[i]? = some x:=⟨l[i],by simp [hlt]⟩
   have hcx:=hc x (List.mem_of_getElem? hx)
   obtain ⟨o0,a0,b0,c0,d0⟩:=x
   have hxl:((l.map inX))[i]? = some [I64 o0,I64 a0,I64 b0,I64 c0,I64 d0]:=by rw [List.getElem?_map,hx];rfl
   simp only [inX] at hcx
   have hput:=put_row (rows:=((l.map inX)).take i) (zs:=[I64 0,I64 0,I64 0,I64 0,I64 0]) (ds:=[I64 o0,I64 a0,I64 b0,I64 c0,I64 d0]) (m:=l.length - (i+1)) (k:=5) (i:=i) rfl rfl (flr i hi)
   rw [show l.length - (i+1)+1=l.length - i by omega,← (show ((l.map inX)).take (i+1)=((l.map inX)).take i++[[I64 o0,I64 a0,I64 b0,I64 c0,I64 d0]] by rw [List.take_succ_eq_append_getElem (by rw [hrl];exact hlt)];congr 2;exact (List.getElem?_eq_some_iff.1 hxl).2)] at hput
   have hbl:((((l.map inX)).take i).flatten++(List.replicate (l.length - i) [I64 0,I64 0,I64 0,I64 0,I64 0]).flatten).length=l.length * 5:=by
    rw [List.length_append,flr i hi]
    have:((List.replicate (l.length - i) ([I64 0,I64 0,I64 0,I64 0,I64 0]:List C)).flatten).length=(l.length - i) * 5:=by simp
    rw [this];omega
   have hbk:∀ c ∈ (((l.map inX)).take (i+1)).flatten++(List.replicate (l.length - (i+1)) ([I64 0,I64 0,I64 0,I64 0,I64 0]:List C)).flatten,kf c=true:=fun c hc=>by
    rcases List.mem_append.1 hc with h1 | h1
    ·obtain ⟨y,hy,h2⟩:=List.mem_flatten.1 h1
     exact hrk y (List.mem_of_mem_take hy) c h2
    ·obtain ⟨y,hy,h2⟩:=List.mem_flatten.1 h1
     rw [List.eq_of_mem_replicate hy] at h2
     exact hzk c h2
   generalize hB1:(((l.map inX)).take i).flatten++(List.replicate (l.length - i) ([I64 0,I64 0,I64 0,I64 0,I64 0]:List C)).flatten=B1 at *
   generalize hB2:(((l.map inX)).take (i+1)).flatten++(List.replicate (l.length - (i+1)) ([I64 0,I64 0,I64 0,I64 0,I64 0]:List C)).flatten=B2 at *
   generalize hRW:(l.map inX)=rows at *
   refine drvL Try.func30 ?_
   simp only [go_sem,hrl,hlt,hxl]
   iterate 6 ((try (refine drvZ Try.func30 ?_;simp only [go_sem,hrl,hlt,hxl,hput]));((with_reducible and_intros)<;>try exact sd);(try first | refine XK.p hcx ok53 ?_ | refine XK.gp hcx ok53 ?_))
   simp only [putCells] at hput
   refine again (i+1) some [] _ hlt (by omega) ?_
   simp only [go_sem,TmOK,DM,DMs,CM,CMs,forall_eq,exists_eq_left,Mq,HpOK,LowOK,hput,hRW,hB2]
   exact ⟨⟨by simp,CMs.kf hbk⟩,by simp⟩
  ·obtain rfl:i=l.length:=by omega
   have hn:¬ l.length<l.length:=by omega
   have he:(((l.map inX)).take l.length).flatten++(List.replicate (l.length - l.length) ([I64 0,I64 0,I64 0,I64 0,I64 0]:List C)).flatten=((l.map inX)).flatten:=by
    rw [List.take_of_length_le (by rw [hrl];exact Nat.le_refl _),Nat.sub_self];simp
   generalize hB1:(((l.map inX)).take l.length).flatten++(List.replicate (l.length - l.length) ([I64 0,I64 0,I64 0,I64 0,I64 0]:List C)).flatten=B1 at *
   generalize hRW:(l.map inX)=rows at *
   refine drvL Try.func30 ?_
   simp only [go_sem,hrl,hn]
   iterate 3 ((try (refine drvZ Try.func30 ?_;simp only [go_sem,hrl,hn]));((with_reducible and_intros)<;>try exact sd))
   exact ret _ _ _ _ rfl he rfl
 ·simp only [go_sem,TmOK,DM,DMs,CM,CMs,forall_eq,exists_eq_left,Mq,HpOK,LowOK]
  refine ⟨⟨by simp,?_⟩,by simp⟩
  have e0:([]:List (List C)).flatten++(List.replicate l.length ([I64 0,I64 0,I64 0,I64 0,I64 0]:List C)).flatten=(List.replicate l.length ([I64 0,I64 0,I64 0,I64 0,I64 0]:List C)).flatten:=rfl
  exact CMs.kf hbk0
theorem toInstrOf (x:In)  : DC Try.prog 53 [.agg (inX x)] [] (fun r h=>r = .agg (inX x)∧h=[]):=by
 have hmx:=mx_eq
 obtain ⟨op,a,b,c',d⟩:=x
 unfold inX
 refine dcZ Try.func53 ?_
 simp only [go_sem]
 iterate 14 ((try (refine drvZ Try.func53 ?_;simp only [go_sem]));((with_reducible and_intros)<;>try exact sd))
 refine RetOb.ofQ (fun _=>none) [] (.agg [I64 op,I64 a,I64 b,I64 c',I64 d]) [] ?_ ⟨rfl,rfl⟩ (by simp)
 all_goals simp [Pg.cells,Mm.cells,St1.cells,Ex.cells,isI,enumL,DM,DMs,CM,CMs,HpOK,LowOK,hOf,upd,kf]
theorem toCodeOf (c:Cd) (hv:DC Try.prog 29 [.c (isI c.vars)] [] (fun r h=>r = .c (isI c.vars)∧h=[])) (ha:DC Try.prog 29 [.c (isI c.arrays)] [] (fun r h=>r = .c (isI c.arrays)∧h=[])) (hb:DC Try.prog 30 [.c (.isl 5 (c.list.map inX))] [] (fun r h=>r = .c (.isl 5 (c.list.map inX))∧h=[])):DC Try.prog 10 [.agg (cdC c)] [] (fun r h=>r = .agg (cdC c)∧h=[]):=by
 have hmx:=mx_eq
 obtain ⟨vs,ar,l⟩:=c
 simp only [cdC] at *
 refine dcZ Try.func10 ?_
 simp only [go_sem]
 iterate 14 ((try (refine drvZ Try.func10 ?_;simp only [go_sem]));((with_reducible and_intros)<;>try exact sd);(try first | refine XK.p hv ok29 ?_ | refine XK.gp hv ok29 ?_ | refine XK.p ha ok29 ?_ | refine XK.gp ha ok29 ?_ | refine XK.p hb ok30 ?_ | refine XK.gp hb ok30 ?_))
 refine RetOb.ofQ (fun _=>none) [] (.agg [isI vs,isI ar,.isl 5 (l.map inX)]) [] ?_ ⟨rfl,rfl⟩ (by simp)
 all_goals simp [Pg.cells,Mm.cells,St1.cells,Ex.cells,isI,enumL,DM,DMs,CM,CMs,HpOK,LowOK,hOf,upd,kf]
theorem szCodeOf (c : Cd) (hv : ∀ left : Int, 0 ≤ left → left ≤ 1048576 → DC Try.prog 23 [.c (isI c.vars), DI .i64 left] [] (fun r h => r = DI .i64 (subZ left (c.vars.length)) ∧ h = [])) (ha : ∀ left : Int, 0 ≤ left → left ≤ 1048576 → DC Try.prog 23 [.c (isI c.arrays), DI .i64 left] [] (fun r h => r = DI .i64 (subZ left (c.arrays.length)) ∧ h = [])) (hb : ∀ left : Int, 0 ≤ left → left ≤ 1048576 → DC Try.prog 24 [.c (.isl 5 (c.list.map inX)), DI .i64 left] [] (fun r h => r = DI .i64 (subZ left (c.list.length)) ∧ h = [])) (left : Int) (h0 : 0 ≤ left) (h1 : left ≤ 1048576) :
 DC Try.prog 7 [.agg (cdC c),DI .i64 left] [] (fun r h=>r=DI .i64 (subZ left (c.vars.length+c.arrays.length+c.list.length))∧h=[]):=by
 have hmx:=mx_eq
 have ret:∀ (u:Int) (hp:Hp),u=subZ left (c.vars.length+c.arrays.length+c.list.length)→RetOb 0 (fun r h=>r=DI .i64 (subZ left (c.vars.length+c.arrays.length+c.list.length))∧h=[]) (DI .i64 u) hp:=fun u hp h=>RetOb.plain (d:=DI .i64 _) ⟨by rw [h],rfl⟩ rfl
 generalize hR:(fun (r:D) (h:List (Option (List C)))=>r=DI .i64 (subZ left (c.vars.length+c.arrays.length+c.list.length))∧h=[])=R at ret ⊢
 clear hR
 obtain ⟨vs,ar,l⟩:=c
 simp only [cdC] at *
 generalize hz1:vs.length=z1 at *
 generalize hz2:ar.length=z2 at *
 generalize hz3:l.length=z3 at *
 have k0:=hv (left) (by omega) (by omega)
 by_cases q0:((z1:Nat):Int)≤left
 ·rw [subZ,if_pos q0] at k0
  have g0:(left - ((z1:Nat):Int)<0)=False:=eq_false (by omega)
  have k1:=ha (left - ((z1:Nat):Int)) (by omega) (by omega)
  by_cases q1:((z2:Nat):Int)≤left - ((z1:Nat):Int)
  ·rw [subZ,if_pos q1] at k1
   have g1:(left - ((z1:Nat):Int) - ((z2:Nat):Int)<0)=False:=eq_false (by omega)
   have k2:=hb (left - ((z1:Nat):Int) - ((z2:Nat):Int)) (by omega) (by omega)
   by_cases q2:((z3:Nat):Int)≤left - ((z1:Nat):Int) - ((z2:Nat):Int)
   ·rw [subZ,if_pos q2] at k2
    have g2:(left - ((z1:Nat):Int) - ((z2:Nat):Int) - ((z3:Nat):Int)<0)=False:=eq_false (by omega)
    refine dcZ Try.func7 ?_
    simp only [go_sem,g0,g1,g2]
    iterate 13 ((try (refine drvZ Try.func7 ?_;simp only [go_sem,g0,g1,g2]));((with_reducible and_intros)<;>try exact sd);(try first | refine XK.p k0 ok23 ?_ | refine XK.gp k0 ok23 ?_ | refine XK.p k1 ok23 ?_ | refine XK.gp k1 ok23 ?_ | refine XK.p k2 ok24 ?_ | refine XK.gp k2 ok24 ?_))
    exact ret _ _ (by rw [subZ,if_pos (by omega)]<;>omega)
   ·rw [subZ,if_neg q2] at k2
    refine dcZ Try.func7 ?_
    simp only [go_sem,g0,g1]
    iterate 13 ((try (refine drvZ Try.func7 ?_;simp only [go_sem,g0,g1]));((with_reducible and_intros)<;>try exact sd);(try first | refine XK.p k0 ok23 ?_ | refine XK.gp k0 ok23 ?_ | refine XK.p k1 ok23 ?_ | refine XK.gp k1 ok23 ?_ | refine XK.p k2 ok24 ?_ | refine XK.gp k2 ok24 ?_))
    exact ret _ _ (by rw [subZ,if_neg (by omega)])
  ·rw [subZ,if_neg q1] at k1
   refine dcZ Try.func7 ?_
   simp only [go_sem,g0]
   iterate 13 ((try (refine drvZ Try.func7 ?_;simp only [go_sem,g0]));((with_reducible and_intros)<;>try exact sd);(try first | refine XK.p k0 ok23 ?_ | refine XK.gp k0 ok23 ?_ | refine XK.p k1 ok23 ?_ | refine XK.gp k1 ok23 ?_))
   exact ret _ _ (by rw [subZ,if_neg (by omega)])
 ·rw [subZ,if_neg q0] at k0
  refine dcZ Try.func7 ?_
  simp only [go_sem]
  iterate 13 ((try (refine drvZ Try.func7 ?_;simp only [go_sem]));((with_reducible and_intros)<;>try exact sd);(try first | refine XK.p k0 ok23 ?_ | refine XK.gp k0 ok23 ?_))
  exact ret _ _ (by rw [subZ,if_neg (by omega)])
theorem szCode_c (c:Cd) (hb:CdB c) (left:Int) (h0:0≤left) (h1:left≤1048576):DC Try.prog 7 [.agg (cdC c),DI .i64 left] [] (fun r h=>r=DI .i64 (subZ left (szC c))∧h=[]) :=
 szCodeOf c (fun l a b=>szIntS c.vars hb.nv l a b) (fun l a b=>szIntS c.arrays hb.na l a b) (fun l a b=>szInstrS c.list hb.nl l a b) left h0 h1
theorem toCode_c (c:Cd) (hb:CdN c):DC Try.prog 10 [.agg (cdC c)] [] (fun r h=>r = .agg (cdC c)∧h=[]) :=
 toCodeOf c (toIntST c.vars hb.nv) (toIntST c.arrays hb.na) (toInstrSOf c.list hb.nl fun x _=>toInstrOf x)
theorem eqCode_c (c:Cd) (hb:CdB c):DC Try.prog 13 [.agg (cdC c),.agg (cdC c)] [] (fun r h=>r=DB true∧h=[]) :=
 eqCodeOf c (eqIntST c.vars hb.nv) (eqIntST c.arrays hb.na) (eqInstrSOf c.list hb.nl fun x _=>eqInstrOf x)
def TC (t:TypeId):Prop:=t ∈ ([3,22,26,96,23,25,28,51]:List TypeId)
theorem celX5:Try.prog.cellsOf 96=5:=by kernel_rfl
theorem clC:Cl Try.prog TC:=⟨fun t ht=>by
 simp only [TC,List.mem_cons,List.not_mem_nil,or_false] at ht
 rcases ht with rfl | rfl | rfl | rfl | rfl | rfl | rfl | rfl
 ·exact .inl ⟨_,Try.underlying3⟩
 ·exact .inr (.inr (.inl ⟨_,Try.underlying22,by simp [TC],of_decide_eq_true (by kernel_rfl),of_decide_eq_true (by kernel_rfl)⟩))
 ·exact .inr (.inr (.inl ⟨_,Try.underlying26,by simp [TC],of_decide_eq_true (by kernel_rfl),of_decide_eq_true (by kernel_rfl)⟩))
 ·exact .inr (.inr (.inr ⟨_,Try.underlying96,by kernel_rfl,by simp [TC]⟩))
 ·exact .inr (.inr (.inl ⟨_,Try.underlying23,by simp [TC],of_decide_eq_true (by kernel_rfl),of_decide_eq_true (by kernel_rfl)⟩))
 ·exact .inr (.inr (.inr ⟨_,Try.underlying25,by kernel_rfl,by simp [TC]⟩))
 ·exact .inr (.inr (.inr ⟨_,Try.underlying28,by kernel_rfl,by simp [TC]⟩))
 ·exact .inr (.inr (.inl ⟨_,Try.underlying51,by simp [TC],of_decide_eq_true (by kernel_rfl),of_decide_eq_true (by kernel_rfl)⟩))⟩
theorem sh_instr {ks:List C} (h:Sh Try.prog 96 ks):∃ x:In,ks=inX x∧True:=by
 obtain ⟨kss,rfl,hl,hx⟩:=h.st_of Try.underlying96
 match kss,hl,hx with
 | [a,b,c,d,e],_,hx =>
  obtain ⟨n0,rfl,_⟩:=sh_int (hx 0 _ a rfl rfl)
  obtain ⟨n1,rfl,_⟩:=sh_int (hx 1 _ b rfl rfl)
  obtain ⟨n2,rfl,_⟩:=sh_int (hx 2 _ c rfl rfl)
  obtain ⟨n3,rfl,_⟩:=sh_int (hx 3 _ d rfl rfl)
  obtain ⟨n4,rfl,_⟩:=sh_int (hx 4 _ e rfl rfl)
  exact ⟨⟨n0,n1,n2,n3,n4⟩,rfl,trivial⟩
theorem sh_code {ks:List C} (h:Sh Try.prog 25 ks):∃ c:Cd,ks=cdC c∧CdB c:=by
 obtain ⟨kss,rfl,hl,hx⟩:=h.st_of Try.underlying25
 match kss,hl,hx with
 | [a,b,c],_,hx =>
  obtain ⟨vs,rfl,h1⟩:=sh_ints (hx 0 _ a rfl rfl)
  obtain ⟨ar,rfl,h2⟩:=sh_ints (hx 1 _ b rfl rfl)
  obtain ⟨l,rfl,h3,_⟩:=(hx 2 _ c rfl rfl).rows_of (f:=inX) (Q:=fun _=>True) Try.underlying23 fun r hr=>sh_instr hr
  exact ⟨⟨vs,ar,l⟩,by rw [celX5];rfl,⟨h1,h2,h3⟩⟩
end Go.Proofs.Ytmjkgjkkpaephaa.CtD
namespace Go.Proofs.Ytmjkgjkkpaephaa.CtD
open Go Go.CT CtF CtR
open CtL (In Cd blmC)
theorem lawXBInstr (p:Cd) (a b:Mm) (hp:CdB p) (ha:MmB a) (hb:MmB b):DC Try.prog 3 [.agg (cdC p),.agg a.cells,.agg b.cells] [] (fun d h=>d=DB true∧h=[]):=by
 have hmx:=mx_eq
 have ret:∀ hp:Hp,RetOb 0 (fun d h=>d=DB true∧h=[]) (DB true) hp:=fun hp=>RetOb.plain (d:=DB true) ⟨rfl,rfl⟩ rfl
 generalize hRR:(fun (d:D) (h:List (Option (List C)))=>d=DB true∧h=[])=R at ret ⊢
 have z1:=szCode_c p hp 1048576 (by omega) (by omega)
 by_cases q1:((szC p:Nat):Int)≤1048576
 ·rw [subZ,if_pos q1] at z1
  have g1:((1048576:Int) - (szC p:Int)<0)=False:=eq_false (by omega)
  have z2:=szMemory_c a ha (1048576 - (szC p:Int)) (by omega) (by omega)
  by_cases q2:((szM a:Nat):Int)≤1048576 - (szC p:Int)
  ·rw [subZ,if_pos q2] at z2
   have g2:((1048576:Int) - (szC p:Int) - (szM a:Int)<0)=False:=eq_false (by omega)
   have z3:=szMemory_c b hb (1048576 - (szC p:Int) - (szM a:Int)) (by omega) (by omega)
   by_cases q3:((szM b:Nat):Int)≤1048576 - (szC p:Int) - (szM a:Int)
   ·rw [subZ,if_pos q3] at z3
    have g3:((1048576:Int) - (szC p:Int) - (szM a:Int) - (szM b:Int)<0)=False:=eq_false (by omega)
    have np:=cdN_of (c:=p) (by omega)
    have na:=mmN_of (m:=a) (by omega)
    have nb:=mmN_of (m:=b) (by omega)
    have c1:=toCode_c p np
    have c2:=toMemory_c a na
    have c3:=toMemory_c b nb
    have e1:=eqCode_c p hp
    have e2:=eqMemory_c a ha
    have e3:=eqMemory_c b hb
    have hbs:=blameInstrS p a b (by have:=np.nv;omega) (by have:=np.na;omega) (by have:=np.nl;omega)
    have hbi:=blameInstrG p a b (by have:=np.nv;omega) (by have:=np.na;omega) (by have:=np.nl;omega)
    generalize blmC p a b=k at *
    generalize szC p=s1 at *
    generalize szM a=s2 at *
    generalize szM b=s3 at *
    clear np na nb hp ha hb
    obtain ⟨vs,ar,l⟩:=p
    obtain ⟨va,arr⟩:=a
    obtain ⟨va',arr'⟩:=b
    simp only [cdC,Mm.cells] at *
    refine dcZ Try.func3 ?_
    simp only [go_sem,g1,g2,g3,bne_self_eq_false]
    iterate 50 ((try (refine drvZ Try.func3 ?_;simp only [go_sem,g1,g2,g3,bne_self_eq_false]));((with_reducible and_intros)<;>try exact sd);(try first | refine XK.p z1 ok7 ?_ | refine XK.gp z1 ok7 ?_ | refine XK.p z2 ok8 ?_ | refine XK.gp z2 ok8 ?_ | refine XK.p z3 ok8 ?_ | refine XK.gp z3 ok8 ?_ | refine XK.p c1 ok10 ?_ | refine XK.gp c1 ok10 ?_ | refine XK.p c2 ok11 ?_ | refine XK.gp c2 ok11 ?_ | refine XK.p c3 ok11 ?_ | refine XK.gp c3 ok11 ?_ | refine XK.p hbs ok9 ?_ | refine XK.gp hbs ok9 ?_ | refine XK.p hbi ok12 ?_ | refine XK.gp hbi ok12 ?_ | refine XK.p e1 ok13 ?_ | refine XK.gp e1 ok13 ?_ | refine XK.p e2 ok14 ?_ | refine XK.gp e2 ok14 ?_ | refine XK.p e3 ok14 ?_ | refine XK.gp e3 ok14 ?_))
    exact ret _
   ·rw [subZ,if_neg q3] at z3
    clear hp ha hb q1 q2 q3
    generalize szC p=s1 at *
    generalize szM a=s2 at *
    obtain ⟨vs,ar,l⟩:=p
    obtain ⟨va,arr⟩:=a
    obtain ⟨va',arr'⟩:=b
    simp only [cdC,Mm.cells] at *
    refine dcZ Try.func3 ?_
    simp only [go_sem,g1,g2]
    iterate 14 ((try (refine drvZ Try.func3 ?_;simp only [go_sem,g1,g2]));((with_reducible and_intros)<;>try exact sd);(try first | refine XK.p z1 ok7 ?_ | refine XK.gp z1 ok7 ?_ | refine XK.p z2 ok8 ?_ | refine XK.gp z2 ok8 ?_ | refine XK.p z3 ok8 ?_ | refine XK.gp z3 ok8 ?_))
    exact ret _
  ·rw [subZ,if_neg q2] at z2
   clear hp ha hb q1 q2
   generalize szC p=s1 at *
   obtain ⟨vs,ar,l⟩:=p
   obtain ⟨va,arr⟩:=a
   obtain ⟨va',arr'⟩:=b
   simp only [cdC,Mm.cells] at *
   refine dcZ Try.func3 ?_
   simp only [go_sem,g1]
   iterate 10 ((try (refine drvZ Try.func3 ?_;simp only [go_sem,g1]));((with_reducible and_intros)<;>try exact sd);(try first | refine XK.p z1 ok7 ?_ | refine XK.gp z1 ok7 ?_ | refine XK.p z2 ok8 ?_ | refine XK.gp z2 ok8 ?_))
   exact ret _
 ·rw [subZ,if_neg q1] at z1
  clear hp ha hb q1
  obtain ⟨vs,ar,l⟩:=p
  obtain ⟨va,arr⟩:=a
  obtain ⟨va',arr'⟩:=b
  simp only [cdC,Mm.cells] at *
  refine dcZ Try.func3 ?_
  simp only [go_sem]
  iterate 8 ((try (refine drvZ Try.func3 ?_;simp only [go_sem]));((with_reducible and_intros)<;>try exact sd);(try first | refine XK.p z1 ok7 ?_ | refine XK.gp z1 ok7 ?_))
  exact ret _
end Go.Proofs.Ytmjkgjkkpaephaa.CtD
