/- Contracts of functions of the program, one behind the other, as plain data: what each call returns and which blocks it leaves. -/
import Derived.Test.YtoakidkcppinpaaDoorEFacts
import Derived.Test.YtoakidkcppinpaaDoorEAj
import Derived.Test.YtoakidkcppinpaaDoorEAk
import Derived.Test.YtoakidkcppinpaaDoorEAl
import Derived.Test.YtoakidkcppinpaaDoorEAy
set_option linter.unusedVariables false
set_option linter.unusedSimpArgs false
set_option linter.unusedSectionVars false
set_option maxHeartbeats 16000000
set_option maxRecDepth 100000
namespace Go.Proofs.YtoakidkcppinpaaDoor.CtD
open Go Go.CT CtF CtR
variable [Yn]
theorem toIntST (l:List (Int)) (hl:l.length≤1048576)  : DC Tryd.prog 18 [.c (.isl 1 ((l.map fun n=>[I64 n])))] [] (fun r h=>r = .c (.isl 1 ((l.map fun n=>[I64 n])))∧h=[]):=by
 have hmx:=mx_eq
 have hrl:((l.map fun n=>[I64 n])).length=l.length:=by simp [List.length_map]
 have hrw:∀ x ∈ ((l.map fun n=>[I64 n])),x.length=1:=fun x hx=>by obtain ⟨e,_,rfl⟩:=List.mem_map.1 hx;rfl
 have hrk:∀ x ∈ ((l.map fun n=>[I64 n])),∀ c ∈ x,kf c=true:=fun x hx c hc=>by obtain ⟨e,_,rfl⟩:=List.mem_map.1 hx;simp only [List.mem_singleton] at hc;subst hc;rfl
 have ret:∀ (k n:Nat) (cs:List C) (hp:Hp),hp k=some (some cs)→cs=((l.map fun n=>[I64 n])).flatten→n=l.length→RetOb 0 (fun r h=>r = .c (.isl 1 ((l.map fun n=>[I64 n])))∧h=[]) (.c (.msl k 1 0 n)) hp:=fun k n cs hp h1 h2 h3=>RetOb.frozen (xs:=(l.map fun n=>[I64 n])) ⟨rfl,rfl⟩ (by rw [h1,h2]) (by rw [h3,hrl]) hrw hrk
 generalize hR:(fun (r:D) (h:List (Option (List C)))=>r = .c (.isl 1 ((l.map fun n=>[I64 n])))∧h=[])=R at ret ⊢
 clear hR
 have hrx:∀ (i:Nat) x,l[i]? = some x→True:=fun _ _ _=>trivial
 have flr:∀ i,i≤l.length→((((l.map fun n=>[I64 n])).take i).flatten).length=i * 1:=fun i hi=>by
  have:=List.length_flatten (L:=((l.map fun n=>[I64 n])).take i)
  rw [this,show ((((l.map fun n=>[I64 n])).take i).map List.length)=List.replicate i 1 from List.eq_replicate_iff.2 ⟨by simp [hrl];omega,fun b hb=>by obtain ⟨x,hx,rfl⟩:=List.mem_map.1 hb;exact hrw x (List.mem_of_mem_take hx)⟩]
  simp
 have hzk:∀ c ∈ ([I64 0]:List C),kf c=true:=by simp [kf]
 have hbk0:∀ c ∈ (List.replicate l.length ([I64 0]:List C)).flatten,kf c=true:=fun c hc=>by
  obtain ⟨y,hy,h2⟩:=List.mem_flatten.1 hc
  rw [List.eq_of_mem_replicate hy] at h2
  exact hzk c h2
 refine dcZ Tryd.func18 ?_
 simp only [go_sem,hrl]
 iterate 4 ((try (refine drvZ Tryd.func18 ?_;simp only [go_sem,hrl]));((with_reducible and_intros)<;>try exact sd))
 refine Go.loopQ (fun i:Nat=>[(0,.c (.isl 1 ((l.map fun n=>[I64 n])))),(3,.c (.msl 192 1 0 l.length)),(4,DI .i64 i)]) (fun i=>[(192,some ((((l.map fun n=>[I64 n])).take i).flatten++(List.replicate (l.length - i) [I64 0]).flatten))]) 1024 (fun i=>i≤l.length) (fun i=>l.length - i) ?_ 0 some [] _ (by omega) ?_
 ·intro i hi again
  rcases Nat.lt_or_ge i l.length with hlt | hge
  ·obtain ⟨x,hx⟩:∃ x,l[i]? = some x:=⟨l[i],by simp [hlt]⟩
   have hxl:((l.map fun n=>[I64 n]))[i]? = some [I64 x]:=by rw [List.getElem?_map,hx];rfl
   have hput:=put_row (rows:=((l.map fun n=>[I64 n])).take i) (zs:=[I64 0]) (ds:=[I64 x]) (m:=l.length - (i+1)) (k:=1) (i:=i) rfl rfl (flr i hi)
   rw [show l.length - (i+1)+1=l.length - i by omega,← (show ((l.map fun n=>[I64 n])).take (i+1)=((l.map fun n=>[I64 n])).take i++[[I64 x]] by rw [List.take_succ_eq_append_getElem (by rw [hrl];exact hlt)];congr 2;exact (List.getElem?_eq_some_iff.1 hxl).2)] at hput
   have hbl:((((l.map fun n=>[I64 n])).take i).flatten++(List.replicate (l.length - i) [I64 0]).flatten).length=l.length * 1:=by
    rw [List.length_append,flr i hi]
    have:((List.replicate (l.length - i) ([I64 0]:List C)).flatten).length=(l.length - i) * 1:=by simp
    rw [this];omega
   have hbk:∀ c ∈ (((l.map fun n=>[I64 n])).take (i+1)).flatten++(List.replicate (l.length - (i+1)) ([I64 0]:List C)).flatten,kf c=true:=fun c hc=>by
    rcases List.mem_append.1 hc with h1 | h1
    ·obtain ⟨y,hy,h2⟩:=List.mem_flatten.1 h1
     exact hrk y (List.mem_of_mem_take hy) c h2
    ·obtain ⟨y,hy,h2⟩:=List.mem_flatten.1 h1
     rw [List.eq_of_mem_replicate hy] at h2
     exact hzk c h2
   generalize hB1:(((l.map fun n=>[I64 n])).take i).flatten++(List.replicate (l.length - i) ([I64 0]:List C)).flatten=B1 at *
   generalize hB2:(((l.map fun n=>[I64 n])).take (i+1)).flatten++(List.replicate (l.length - (i+1)) ([I64 0]:List C)).flatten=B2 at *
   generalize hRW:(l.map fun n=>[I64 n])=rows at *
   refine drvL Tryd.func18 ?_
   simp only [go_sem,hrl,hlt,hxl]
   iterate 6 ((try (refine drvZ Tryd.func18 ?_;simp only [go_sem,hrl,hlt,hxl,hput]));((with_reducible and_intros)<;>try exact sd))
   simp only [putCells,Nat.mul_one,isI] at hput
   refine again (i+1) some [] _ hlt (by omega) ?_
   simp only [go_sem,TmOK,DM,DMs,CM,CMs,forall_eq,exists_eq_left,Mq,HpOK,LowOK,hput,hRW,hB2]
   exact ⟨⟨by simp,CMs.kf hbk⟩,by simp⟩
  ·obtain rfl:i=l.length:=by omega
   have hn:¬ l.length<l.length:=by omega
   have he:(((l.map fun n=>[I64 n])).take l.length).flatten++(List.replicate (l.length - l.length) ([I64 0]:List C)).flatten=((l.map fun n=>[I64 n])).flatten:=by
    rw [List.take_of_length_le (by rw [hrl];exact Nat.le_refl _),Nat.sub_self];simp
   generalize hB1:(((l.map fun n=>[I64 n])).take l.length).flatten++(List.replicate (l.length - l.length) ([I64 0]:List C)).flatten=B1 at *
   generalize hRW:(l.map fun n=>[I64 n])=rows at *
   refine drvL Tryd.func18 ?_
   simp only [go_sem,hrl,hn]
   iterate 3 ((try (refine drvZ Tryd.func18 ?_;simp only [go_sem,hrl,hn]));((with_reducible and_intros)<;>try exact sd))
   exact ret _ _ _ _ rfl he rfl
 ·simp only [go_sem,TmOK,DM,DMs,CM,CMs,forall_eq,exists_eq_left,Mq,HpOK,LowOK]
  refine ⟨⟨by simp,?_⟩,by simp⟩
  have e0:([]:List (List C)).flatten++(List.replicate l.length ([I64 0]:List C)).flatten=(List.replicate l.length ([I64 0]:List C)).flatten:=rfl
  exact CMs.kf hbk0
theorem celX1:Tryd.prog.cellsOf 3=1:=by kernel_rfl
theorem sh_int {ks:List C} (h:Sh Tryd.prog 3 ks):∃ n:Int,ks=[I64 n]∧True:=by
 obtain ⟨n,rfl,_⟩:=h.int_of Tryd.underlying3
 exact ⟨n,rfl,trivial⟩
theorem sh_ints {ks:List C} (h:Sh Tryd.prog 22 ks):∃ l:List Int,ks=[isI l]∧l.length≤mx:=by
 obtain ⟨l,rfl,hl,_⟩:=h.rows_of (f:=fun n:Int=>[I64 n]) (Q:=fun _=>True) Tryd.underlying22 fun r hr=>sh_int hr
 exact ⟨l,by rw [celX1];rfl,hl⟩
open CtL (In Cd kindsOf topOf fOK inOK endOK codeOK atC halt)
theorem shapeI0 (op:Int) (h:op<1∨13<op):DC Tryd.prog 54 [DI .i64 op] [] (fun r h=>r=DS ByteArray.empty∧h=[]):=by
 have hmx:=mx_eq
 have hw:=CtR.within op 1 13
 have hf:(decide (1≤op) && decide (op≤13))=false:=by rw [Bool.and_eq_false_iff];simp;omega
 rw [hf] at hw
 refine dcZ Tryd.func54 ?_
 simp only [go_sem]
 iterate 4 ((try (refine drvZ Tryd.func54 ?_;simp only [go_sem]));((with_reducible and_intros)<;>try exact sd);(try first | refine XK.p hw ok41 ?_ | refine XK.gp hw ok41 ?_))
 exact RetOb.plain (d:=DS _) ⟨rfl,rfl⟩ rfl
theorem fieldOkG (c : Cd) (h1 : c.vars.length ≤ mx) (h2 : c.arrays.length ≤ mx) (h3 : c.list.length ≤ mx) (k : Nat) (hk : k ≤ 6) (n : Int) :
 DC Tryd.prog 56 [.agg (cdC c),.c (.v (.int .u8 (ltr k).toNat)),DI .i64 n] [] (fun r h=>r=DB (fOK c.vars.length c.arrays.length c.list.length k n)∧h=[]):=by
 have hmx:=mx_eq
 have hw:=fun hi=>CtR.within n 0 hi
 have hw4:=CtR.within n 4 10
 obtain ⟨vs,ar,ls⟩:=c
 simp only at h1 h2 h3
 have ret:∀ (b:Bool) (hp:Hp),b=fOK vs.length ar.length ls.length k n→RetOb 0 (fun r h=>r=DB (fOK vs.length ar.length ls.length k n)∧h=[]) (DB b) hp:=fun b hp h=>RetOb.plain (d:=DB _) ⟨by rw [h],rfl⟩ rfl
 generalize hR:(fun (r:D) (h:List (Option (List C)))=>r=DB (fOK vs.length ar.length ls.length k n)∧h=[])=R at ret ⊢
 clear hR
 have key:k=0∨k=1∨k=2∨k=3∨k=4∨k=5∨k=6:=by omega
 unfold cdC
 rcases key with rfl | rfl | rfl | rfl | rfl | rfl | rfl
 ·rw [show (((ltr 0).toNat:Nat):Int)=45 from rfl]
  refine dcZ Tryd.func56 ?_
  simp only [go_sem]
  iterate 9 ((try (refine drvZ Tryd.func56 ?_;simp only [go_sem]));((with_reducible and_intros)<;>try exact sd))
  refine ret _ _ ?_
  rw [Bool.eq_iff_iff];simp [fOK,topOf];omega
 ·rw [show (((ltr 1).toNat:Nat):Int)=114 from rfl]
  have hw:=hw (13)
  generalize hB:(decide (0≤n) && decide (n≤13))=B at hw
  refine dcZ Tryd.func56 ?_
  simp only [go_sem]
  iterate 10 ((try (refine drvZ Tryd.func56 ?_;simp only [go_sem,Int.reduceLE,List.length_map]));((with_reducible and_intros)<;>try exact sd);(try first | refine XK.p hw ok41 ?_ | refine XK.gp hw ok41 ?_))
  exact ret _ _ (by rw [← hB];simp [fOK,topOf])
 ·rw [show (((ltr 2).toNat:Nat):Int)=110 from rfl]
  have hw:=hw (255)
  generalize hB:(decide (0≤n) && decide (n≤255))=B at hw
  refine dcZ Tryd.func56 ?_
  simp only [go_sem]
  iterate 10 ((try (refine drvZ Tryd.func56 ?_;simp only [go_sem,Int.reduceLE,List.length_map]));((with_reducible and_intros)<;>try exact sd);(try first | refine XK.p hw ok41 ?_ | refine XK.gp hw ok41 ?_))
  exact ret _ _ (by rw [← hB];simp [fOK,topOf])
 ·rw [show (((ltr 3).toNat:Nat):Int)=118 from rfl]
  have hw:=hw ((vs.length:Int) - 1)
  generalize hB:(decide (0≤n) && decide (n≤(vs.length:Int) - 1))=B at hw
  refine dcZ Tryd.func56 ?_
  simp only [go_sem]
  iterate 10 ((try (refine drvZ Tryd.func56 ?_;simp only [go_sem,Int.reduceLE,List.length_map]));((with_reducible and_intros)<;>try exact sd);(try first | refine XK.p hw ok41 ?_ | refine XK.gp hw ok41 ?_))
  exact ret _ _ (by rw [← hB];simp [fOK,topOf])
 ·rw [show (((ltr 4).toNat:Nat):Int)=97 from rfl]
  have hw:=hw ((ar.length:Int) - 1)
  generalize hB:(decide (0≤n) && decide (n≤(ar.length:Int) - 1))=B at hw
  refine dcZ Tryd.func56 ?_
  simp only [go_sem]
  iterate 10 ((try (refine drvZ Tryd.func56 ?_;simp only [go_sem,Int.reduceLE,List.length_map]));((with_reducible and_intros)<;>try exact sd);(try first | refine XK.p hw ok41 ?_ | refine XK.gp hw ok41 ?_))
  exact ret _ _ (by rw [← hB];simp [fOK,topOf])
 ·rw [show (((ltr 5).toNat:Nat):Int)=111 from rfl]
  have hw:=hw4
  generalize hB:(decide (4≤n) && decide (n≤10))=B at hw
  refine dcZ Tryd.func56 ?_
  simp only [go_sem]
  iterate 10 ((try (refine drvZ Tryd.func56 ?_;simp only [go_sem,Int.reduceLE,List.length_map]));((with_reducible and_intros)<;>try exact sd);(try first | refine XK.p hw ok41 ?_ | refine XK.gp hw ok41 ?_))
  exact ret _ _ (by rw [← hB];simp [fOK,topOf])
 ·rw [show (((ltr 6).toNat:Nat):Int)=105 from rfl]
  have hw:=hw ((ls.length:Int) - 1)
  generalize hB:(decide (0≤n) && decide (n≤(ls.length:Int) - 1))=B at hw
  refine dcZ Tryd.func56 ?_
  simp only [go_sem]
  iterate 10 ((try (refine drvZ Tryd.func56 ?_;simp only [go_sem,Int.reduceLE,List.length_map]));((with_reducible and_intros)<;>try exact sd);(try first | refine XK.p hw ok41 ?_ | refine XK.gp hw ok41 ?_))
  exact ret _ _ (by rw [← hB];simp [fOK,topOf])
theorem instrOkG (c : Cd) (h1 : c.vars.length ≤ mx) (h2 : c.arrays.length ≤ mx) (h3 : c.list.length ≤ mx) (x : In) :
 DC Tryd.prog 44 [.agg (cdC c),.agg (inX x)] [] (fun r h=>r=DB (inOK c.vars.length c.arrays.length c.list.length x)∧h=[]):=by
 have hmx:=mx_eq
 have hf:=fun k hk n=>fieldOkG c h1 h2 h3 k hk n
 have hfi:=fieldsI x
 have ret:∀ (b:Bool) (hp:Hp),b=inOK c.vars.length c.arrays.length c.list.length x→RetOb 0 (fun r h=>r=DB (inOK c.vars.length c.arrays.length c.list.length x)∧h=[]) (DB b) hp:=fun b hp h=>RetOb.plain (d:=DB _) ⟨by rw [h],rfl⟩ rfl
 generalize hR:(fun (r:D) (h:List (Option (List C)))=>r=DB (inOK c.vars.length c.arrays.length c.list.length x)∧h=[])=R at ret ⊢
 clear hR
 obtain ⟨op,a,b,c',d⟩:=x
 have hcx:cdC c=[isI c.vars,isI c.arrays,.isl 5 (c.list.map inX)]:=rfl
 have hlx:inX ⟨op,a,b,c',d⟩=[I64 op,I64 a,I64 b,I64 c',I64 d]:=rfl
 rw [hlx] at hfi ⊢
 simp only [hcx] at hf ⊢
 simp only at hfi
 generalize hLI:c.list.map inX=LI at *
 by_cases ho:op<1∨13<op
 ·have hsh:=shapeI0 op ho
  have hret:false=inOK c.vars.length c.arrays.length c.list.length ⟨op,a,b,c',d⟩:=by
   have hf0:(decide (1≤op) && decide (op≤13))=false:=by rw [Bool.and_eq_false_iff];simp;omega
   simp [inOK,hf0]
  have ret:=fun hp=>ret false hp hret
  have hse:(ByteArray.empty.toList == (ByteArray.toList { data:=#[] }))=true:=by simp [toList_nil]
  have hx0:([[I64 a],[I64 b],[I64 c'],[I64 d]]:List (List C))[0]? = some [I64 a]:=rfl
  refine dcZ Tryd.func44 ?_
  simp only [go_sem]
  iterate 5 ((try (refine drvZ Tryd.func44 ?_;simp only [go_sem]));((with_reducible and_intros)<;>try exact sd);(try first | refine XK.p hsh ok54 ?_ | refine XK.gp hsh ok54 ?_ | refine XK.p hfi ok55 ?_ | refine XK.gp hfi ok55 ?_))
  refine Go.loop ?_
  refine drvL Tryd.func44 ?_
  simp only [go_sem,hx0,hse]
  iterate 6 ((try (refine drvZ Tryd.func44 ?_;simp only [go_sem,hx0,hse]));((with_reducible and_intros)<;>try exact sd);(try first | refine XK.gs (DB false) ?_))
  exact ret _
 have o1:1≤op:=by omega
 have o2:op≤13:=by omega
 have hsh:=shapeI op ⟨o1,o2⟩
 have hin:inOK c.vars.length c.arrays.length c.list.length ⟨op,a,b,c',d⟩=(fOK c.vars.length c.arrays.length c.list.length ((kindsOf op).getD 0 0) a && fOK c.vars.length c.arrays.length c.list.length ((kindsOf op).getD 1 0) b && fOK c.vars.length c.arrays.length c.list.length ((kindsOf op).getD 2 0) c' && fOK c.vars.length c.arrays.length c.list.length ((kindsOf op).getD 3 0) d):=by
  unfold inOK
  rw [show decide (1≤op)=true by simp;omega,show decide (op≤13)=true by simp;omega]
  rfl
 rw [hin] at ret
 have retF:∀ (i:Nat) (hp:Hp),i<4→fOK c.vars.length c.arrays.length c.list.length ((kindsOf op).getD i 0) ([a,b,c',d].getD i 0)=false→RetOb 0 R (DB false) hp:=fun i hp hi h=>by
  refine ret _ _ ?_
  have:i=0∨i=1∨i=2∨i=3:=by omega
  rcases this with rfl | rfl | rfl | rfl
  ·rw [show fOK c.vars.length c.arrays.length c.list.length ((kindsOf op).getD 0 0) a=false from h];simp only [Bool.and_false,Bool.false_and]
  ·rw [show fOK c.vars.length c.arrays.length c.list.length ((kindsOf op).getD 1 0) b=false from h];simp only [Bool.and_false,Bool.false_and]
  ·rw [show fOK c.vars.length c.arrays.length c.list.length ((kindsOf op).getD 2 0) c'=false from h];simp only [Bool.and_false,Bool.false_and]
  ·rw [show fOK c.vars.length c.arrays.length c.list.length ((kindsOf op).getD 3 0) d=false from h];simp only [Bool.and_false]
 have retT:∀ (hp:Hp),(∀ i:Nat,i<4→fOK c.vars.length c.arrays.length c.list.length ((kindsOf op).getD i 0) ([a,b,c',d].getD i 0)=true)→RetOb 0 R (DB true) hp:=fun hp h=>by
  refine ret _ _ ?_
  rw [show fOK c.vars.length c.arrays.length c.list.length ((kindsOf op).getD 0 0) a=true from h 0 (by omega),show fOK c.vars.length c.arrays.length c.list.length ((kindsOf op).getD 1 0) b=true from h 1 (by omega),show fOK c.vars.length c.arrays.length c.list.length ((kindsOf op).getD 2 0) c'=true from h 2 (by omega),show fOK c.vars.length c.arrays.length c.list.length ((kindsOf op).getD 3 0) d=true from h 3 (by omega)];rfl
 clear ret hin
 have hsz:(shp op).size=4:=rfl
 have hse:((shp op).toList == (ByteArray.toList { data:=#[] }))=false:=shp_ne op ⟨o1,o2⟩
 refine dcZ Tryd.func44 ?_
 simp only [go_sem]
 iterate 5 ((try (refine drvZ Tryd.func44 ?_;simp only [go_sem]));((with_reducible and_intros)<;>try exact sd);(try first | refine XK.p hsh ok54 ?_ | refine XK.gp hsh ok54 ?_ | refine XK.p hfi ok55 ?_ | refine XK.gp hfi ok55 ?_))
 refine Go.loopQ (fun i : Nat => [(2, .c (.ptr 0 0)), (5, DS (shp op)), (12, .c (.isl 1 [[I64 a], [I64 b], [I64 c'], [I64 d]])), (13, DI .i64 4), (14, DI .i64 i)]) (fun _ => [(0, some [isI c.vars, isI c.arrays, .isl 5 LI])])
  4096 (fun i=>i≤4∧∀ j:Nat,j<i→fOK c.vars.length c.arrays.length c.list.length ((kindsOf op).getD j 0) ([a,b,c',d].getD j 0)=true) (fun i=>4 - i) ?_ 0 some [] _ ⟨by omega,fun j hj=>by omega⟩ ?_
 ·rintro i ⟨hi,hI⟩ again
  rcases Nat.lt_or_ge i 4 with hlt | hge
  ·have hx:[[I64 a],[I64 b],[I64 c'],[I64 d]][i]? = some [I64 ([a,b,c',d].getD i 0)]:=by
    have:i=0∨i=1∨i=2∨i=3:=by omega
    rcases this with rfl | rfl | rfl | rfl<;>rfl
   have hc:=hf _ (kinds_le op i) ([a,b,c',d].getD i 0)
   have hat:=shp_at op i hlt
   have hlt':(i:Int)<4:=by omega
   have retF:=fun hp=>retF i hp hlt
   have hst:∀ q:fOK c.vars.length c.arrays.length c.list.length ((kindsOf op).getD i 0) ([a,b,c',d].getD i 0)=true,i+1≤4∧∀ j:Nat,j<i+1→fOK c.vars.length c.arrays.length c.list.length ((kindsOf op).getD j 0) ([a,b,c',d].getD j 0)=true:=fun q=>⟨hlt,fun j hj=>by
    by_cases e:j=i
    ·subst e;exact q
    ·exact hI j (by omega)⟩
   generalize [a,b,c',d].getD i 0=n at *
   generalize (kindsOf op).getD i 0=k at *
   generalize [[I64 a],[I64 b],[I64 c'],[I64 d]]=fl at *
   generalize shp op=sp at *
   cases hq:fOK c.vars.length c.arrays.length c.list.length k n with
   | true =>
    rw [hq] at hc
    have hs:=hst hq
    refine drvL Tryd.func44 ?_
    simp only [go_sem,hlt']
    iterate 5 ((try (refine drvZ Tryd.func44 ?_;simp only [go_sem,hx,hlt',hat,hsz,hse]));((with_reducible and_intros)<;>try exact sd);(try first | refine XK.p hc ok56 ?_ | refine XK.gp hc ok56 ?_))
    refine again (i+1) some [] _ hs (by omega) ?_
    simp only [go_sem,TmOK,DM,DMs,CM,CMs,forall_eq,exists_eq_left,Mq,HpOK,LowOK]
    try simp
   | false =>
    rw [hq] at hc
    refine drvL Tryd.func44 ?_
    simp only [go_sem,hlt']
    iterate 5 ((try (refine drvZ Tryd.func44 ?_;simp only [go_sem,hx,hlt',hat,hsz,hse]));((with_reducible and_intros)<;>try exact sd);(try first | refine XK.p hc ok56 ?_ | refine XK.gp hc ok56 ?_))
    exact retF _ hq
  ·obtain rfl:i=4:=by omega
   have h44:(((4:Nat):Int)<4)=False:=eq_false (by decide)
   refine drvL Tryd.func44 ?_
   simp only [go_sem,h44]
   iterate 3 ((try (refine drvZ Tryd.func44 ?_;simp only [go_sem,h44]));((with_reducible and_intros)<;>try exact sd))
   exact retT _ hI
 ·simp only [go_sem,TmOK,DM,DMs,CM,CMs,forall_eq,exists_eq_left,Mq,HpOK,LowOK]
  simp
  try exact fun a _=>rfl
open CtL (In Cd kindsOf topOf fOK inOK endOK codeOK atC halt)
theorem cvFnG (c : Cd) (h1 : c.vars.length ≤ mx) (h2 : c.arrays.length ≤ mx) (h3 : c.list.length ≤ mx) (x : In) :
 DC Tryd.prog 43 [.agg (inX x),.c (.eptr (cdC c))] [] (fun r h=>r=DB (!inOK c.vars.length c.arrays.length c.list.length x)∧h=[]):=by
 have hio:=instrOkG c h1 h2 h3 x
 generalize inOK c.vars.length c.arrays.length c.list.length x=B at *
 unfold cdC at hio ⊢
 obtain ⟨op,a,b,c',d⟩:=x
 unfold inX at hio ⊢
 refine dcZ Tryd.func43 ?_
 simp only [go_sem]
 iterate 4 ((try (refine drvZ Tryd.func43 ?_;simp only [go_sem]));((with_reducible and_intros)<;>try exact sd);(try first | refine XK.p hio ok44 ?_ | refine XK.gp hio ok44 ?_))
 exact RetOb.plain (d:=DB (!B)) ⟨rfl,rfl⟩ rfl
def ixB (p : In → Bool) : List In → Int → Int
 | [],_ => -1
 | x :: r,n=>if p x then ixB p r (n+1) else n
theorem ixB_all (p : In → Bool) : ∀ (l : List In) (n : Int), 0 ≤ n → decide (0 ≤ ixB p l n) = !l.all p
 | [],n,h=>rfl
 | x :: r,n,h=>by
  cases hx:p x with
  | true=>simp only [ixB,hx,if_true,List.all_cons,Bool.true_and];exact ixB_all p r (n+1) (by omega)
  | false=>simp [ixB,hx,h]
theorem indexFuncG (cc : List C) (p : In → Bool) (xs : List In) (hl : xs.length ≤ mx) (hg : ∀ x, DC Tryd.prog 43 [.agg (inX x), .c (.eptr cc)] [] (fun r h => r = DB (!p x) ∧ h = [])) :
 DC Tryd.prog 53 [.c (.isl 5 (xs.map inX)),.c (.clo 43 [.eptr cc])] [] (fun d h=>d=DI .i64 (ixB p xs 0)∧h=[]):=by
 have hmx:=mx_eq
 have ret:∀ (v:Int) (hp:Hp),v=ixB p xs 0→RetOb 0 (fun d h=>d=DI .i64 (ixB p xs 0)∧h=[]) (DI .i64 v) hp:=fun v hp h=>RetOb.plain (d:=DI .i64 _) ⟨by rw [h],rfl⟩ rfl
 generalize hR:(fun (d:D) (h:List (Option (List C)))=>d=DI .i64 (ixB p xs 0)∧h=[])=R at ret ⊢
 clear hR
 refine dcZ Tryd.func53 ?_
 simp only [go_sem]
 ((try (refine drvZ Tryd.func53 ?_;simp only [go_sem]));((with_reducible and_intros)<;>try exact sd))
 refine Go.loopQ (fun i:Nat=>[(0,.c (.isl 5 (xs.map inX))),(1,.c (.clo 43 [.eptr cc])),(7,DI .i64 xs.length),(8,DI .i64 i)]) (fun _=>[]) 1024 (fun i=>i≤xs.length∧ixB p (xs.drop i) i=ixB p xs 0) (fun i=>xs.length - i) ?_ 0 some [] _ ⟨Nat.zero_le _,rfl⟩ ?_
 ·rintro i ⟨hi,hI⟩ again
  rcases Nat.lt_or_ge i xs.length with hlt | hge
  ·obtain ⟨x,hx⟩:∃ x,xs[i]? = some x:=⟨xs[i],by simp [hlt]⟩
   have hgx:=hg x
   rw [List.drop_eq_getElem_cons hlt,(List.getElem?_eq_some_iff.1 hx).2] at hI
   cases hpx:p x with
   | true =>
    rw [hpx] at hgx
    simp only [ixB,hpx,if_true] at hI
    obtain ⟨op,a,b,c,d⟩:=x
    simp only [inX] at hgx
    refine drvL Tryd.func53 ?_
    simp only [go_sem,hx,hlt,inX]
    iterate 5 ((try (refine drvZ Tryd.func53 ?_;simp only [go_sem,hx,hlt,inX]));((with_reducible and_intros)<;>try exact sd);(try first | refine XK.p hgx ok43 ?_ | refine XK.gp hgx ok43 ?_))
    refine again (i+1) some [] _ ⟨hlt,by rw [← hI];rfl⟩ (by omega) ?_
    simp only [go_sem,TmOK,DM,DMs,CM,CMs,forall_eq,exists_eq_left,Mq,HpOK,LowOK]
    first | done | (simp;done) | (simp;exact CM.kf rfl) | exact CM.kf rfl
   | false =>
    rw [hpx] at hgx
    simp only [ixB,hpx] at hI
    obtain ⟨op,a,b,c,d⟩:=x
    simp only [inX] at hgx
    refine drvL Tryd.func53 ?_
    simp only [go_sem,hx,hlt,inX]
    iterate 5 ((try (refine drvZ Tryd.func53 ?_;simp only [go_sem,hx,hlt,inX]));((with_reducible and_intros)<;>try exact sd);(try first | refine XK.p hgx ok43 ?_ | refine XK.gp hgx ok43 ?_))
    exact ret _ _ (by rw [← hI];rfl)
  ·have hn:¬ i<xs.length:=by omega
   have e1:xs.drop i=[]:=List.drop_of_length_le (by omega)
   refine drvL Tryd.func53 ?_
   simp only [go_sem,hn]
   iterate 3 ((try (refine drvZ Tryd.func53 ?_;simp only [go_sem,hn]));((with_reducible and_intros)<;>try exact sd))
   exact ret _ _ (by rw [← hI,e1];rfl)
 ·simp only [go_sem,TmOK,DM,DMs,CM,CMs,forall_eq,exists_eq_left,Mq,HpOK,LowOK]
  first | done | (simp;done) | (simp;exact CM.kf rfl) | exact CM.kf rfl
theorem containsFuncG (cc : List C) (p : In → Bool) (xs : List In) (hl : xs.length ≤ mx) (hg : ∀ x, DC Tryd.prog 43 [.agg (inX x), .c (.eptr cc)] [] (fun r h => r = DB (!p x) ∧ h = [])) :
 DC Tryd.prog 42 [.c (.isl 5 (xs.map inX)),.c (.clo 43 [.eptr cc])] [] (fun d h=>d=DB (!xs.all p)∧h=[]):=by
 have hif:=indexFuncG cc p xs hl hg
 have hal:=ixB_all p xs 0 (by omega)
 generalize ixB p xs 0=k at *
 refine dcZ Tryd.func42 ?_
 simp only [go_sem]
 iterate 3 ((try (refine drvZ Tryd.func42 ?_;simp only [go_sem]));((with_reducible and_intros)<;>try exact sd);(try first | refine XK.p hif ok53 ?_ | refine XK.gp hif ok53 ?_))
 exact RetOb.plain (d:=DB _) ⟨by rw [← hal],rfl⟩ rfl
theorem codeValidG0 (c:Cd) (h1:c.vars.length≤2000000) (h2:c.arrays.length≤2000000) (h3:c.list.length≤100000000) (h:codeOK c=false):DC Tryd.prog 20 [.agg (cdC c)] [] (fun r h=>r=DB false∧h=[]):=by
 have hmx:=mx_eq
 have hfn:=fun x=>cvFnG c (by omega) (by omega) (by omega) x
 have ret:∀ hp:Hp,RetOb 0 (fun r h=>r=DB false∧h=[]) (DB false) hp:=fun hp=>RetOb.plain (d:=DB false) ⟨rfl,rfl⟩ rfl
 generalize hR:(fun (r:D) (h:List (Option (List C)))=>r=DB false∧h=[])=R at ret ⊢
 clear hR
 obtain ⟨vs,ar,l⟩:=c
 simp only at h1 h2 h3 hfn
 have hcf:=containsFuncG (cdC ⟨vs,ar,l⟩) (inOK vs.length ar.length l.length) l (by omega) hfn
 have hde:=declared vs ar (by omega) (by omega)
 have hw:=CtR.within l.length 1 400
 unfold codeOK at h
 simp only at h
 unfold cdC at hcf ⊢
 cases hh:headsOK vs ar with
 | false =>
  rw [hh] at hde
  clear hw hcf
  refine dcZ Tryd.func20 ?_
  simp only [go_sem]
  iterate 8 ((try (refine drvZ Tryd.func20 ?_;simp only [go_sem,List.length_map]));((with_reducible and_intros)<;>try exact sd);(try first | refine XK.p hde ok40 ?_ | refine XK.gp hde ok40 ?_ | refine XK.gs (DB false) ?_))
  exact ret _
 | true =>
  rw [hh] at hde h
  simp only [Bool.true_and] at h
  cases hb:(decide (1≤(l.length:Int)) && decide ((l.length:Int)≤400)) with
  | false =>
   rw [hb] at hw
   clear hcf
   refine dcZ Tryd.func20 ?_
   simp only [go_sem]
   iterate 8 ((try (refine drvZ Tryd.func20 ?_;simp only [go_sem,List.length_map]));((with_reducible and_intros)<;>try exact sd);(try first | refine XK.p hde ok40 ?_ | refine XK.gp hde ok40 ?_ | refine XK.p hw ok41 ?_ | refine XK.gp hw ok41 ?_ | refine XK.gs (DB false) ?_))
   exact ret _
  | true =>
   rw [hb] at hw h
   simp only [Bool.true_and] at h
   simp only [Bool.and_eq_true,decide_eq_true_eq] at hb
   obtain ⟨x,hx⟩:∃ x,l[l.length - 1]? = some x:=⟨l[l.length - 1]'(by omega),by simp⟩
   have hat:atC l (l.length - 1)=x:=by simp [atC,List.getD,hx]
   simp only [endOK,hat] at h
   have hpos:((l.length:Int) - 1).toNat=l.length - 1:=by omega
   have hget:(l.map inX)[l.length - 1]? = some (inX x):=by rw [List.getElem?_map,hx];rfl
   generalize hal:l.all (inOK vs.length ar.length l.length)=al at *
   obtain ⟨op,xa,xb,xc,xd⟩:=x
   simp only at h
   refine dcZ Tryd.func20 ?_
   simp only [go_sem]
   iterate 6 ((try (refine drvZ Tryd.func20 ?_;simp only [go_sem,List.length_map]));((with_reducible and_intros)<;>try exact sd);(try first | refine XK.p hde ok40 ?_ | refine XK.gp hde ok40 ?_ | refine XK.p hw ok41 ?_ | refine XK.gp hw ok41 ?_))
   refine XK.subQ (r := some) (fz := [0]) (tl := [(1, .c (.eptr [isI vs, isI ar, .isl 5 (l.map inX)])), (2, DB false), (17, DB false), (19, .when true (.c (.isl 5 (l.map inX)))), (20, .when true (.c (.clo 43 [.eptr [isI vs, isI ar, .isl 5 (l.map inX)]])))])
    (hl:=[]) ?_ ?_
   ·simp only [go_sem,TmOK,DM,DMs,CM,CMs,forall_eq,exists_eq_left,Mq,HpOK,LowOK]
    simp
   cases al with
   | false =>
    iterate 9 ((try (refine drvZ Tryd.func20 ?_;simp only [go_sem,List.length_map]));((with_reducible and_intros)<;>try exact sd);(try first | refine XK.p hcf ok42 ?_ | refine XK.gp hcf ok42 ?_))
    exact ret _
   | true =>
    simp only [Bool.true_and,Bool.or_eq_false_iff] at h
    have e1:=h.1
    have e2:=h.2
    iterate 9 ((try (refine drvZ Tryd.func20 ?_;simp only [go_sem,List.length_map,hpos,hget,inX,e1,e2]));((with_reducible and_intros)<;>try exact sd);(try first | refine XK.p hcf ok42 ?_ | refine XK.gp hcf ok42 ?_))
    exact ret _
open CtL (In Cd)
def szC (c:Cd):Nat:=c.vars.length+c.arrays.length+c.list.length
structure CdB (c : Cd) : Prop where
 nv:c.vars.length≤mx
 na:c.arrays.length≤mx
 nl:c.list.length≤mx
structure CdN (c : Cd) : Prop where
 nv:c.vars.length≤1048576
 na:c.arrays.length≤1048576
 nl:c.list.length≤1048576
theorem cdN_of {c:Cd} (h:szC c≤1048576):CdN c:=by
 unfold szC at h
 exact ⟨by omega,by omega,by omega⟩
theorem in_kf (x:In):∀ c ∈ inX x,kf c=true:=by simp [inX,kf]
theorem szInstrS (xs:List In) (hl:xs.length≤mx) (left:Int) (h0:0≤left) (h1:left≤1048576):DC Tryd.prog 14 [.c (.isl 5 (xs.map inX)),DI .i64 left] [] (fun r h=>r=DI .i64 (subZ left xs.length)∧h=[]):=by
 have hmx:=mx_eq
 have ret:∀ (v:Int) (hp:Hp),v=subZ left xs.length→RetOb 0 (fun r h=>r=DI .i64 (subZ left xs.length)∧h=[]) (DI .i64 v) hp:=fun v hp h=>RetOb.plain (d:=DI .i64 _) ⟨by rw [h],rfl⟩ rfl
 generalize hR:(fun (r:D) (h:List (Option (List C)))=>r=DI .i64 (subZ left xs.length)∧h=[])=R at ret ⊢
 clear hR
 by_cases hq:(xs.length:Int)≤left
 ·have g:(left - (xs.length:Int)<0)=False:=eq_false (by omega)
  refine dcZ Tryd.func14 ?_
  simp only [go_sem,List.length_map,g]
  iterate 4 ((try (refine drvZ Tryd.func14 ?_;simp only [go_sem,List.length_map,g]));((with_reducible and_intros)<;>try exact sd))
  exact ret _ _ (by rw [subZ,if_pos hq])
 ·have g:(left - (xs.length:Int)<0)=True:=eq_true (by omega)
  refine dcZ Tryd.func14 ?_
  simp only [go_sem,List.length_map,g]
  iterate 4 ((try (refine drvZ Tryd.func14 ?_;simp only [go_sem,List.length_map,g]));((with_reducible and_intros)<;>try exact sd))
  exact ret _ _ (by rw [subZ,if_neg hq])
theorem eqInstrSOf (l:List (In)) (hl:l.length≤mx) (hc:∀ x ∈ l,DC Tryd.prog 47 [.agg (inX x),.agg (inX x)] [] (fun r h=>r=DB true∧h=[])):DC Tryd.prog 23 [.c (.isl 5 ((l.map inX))),.c (.isl 5 ((l.map inX)))] [] (fun r h=>r=DB true∧h=[]):=by
 have hmx:=mx_eq
 have ret:∀ hp:Hp,RetOb 0 (fun r h=>r=DB true∧h=[]) (DB true) hp:=fun hp=>RetOb.plain (d:=DB true) ⟨rfl,rfl⟩ rfl
 generalize hR:(fun (r:D) (h:List (Option (List C)))=>r=DB true∧h=[])=R at ret ⊢
 clear hR
 have hrl:((l.map inX)).length=l.length:=by simp [List.length_map]
 have hrx:∀ (i:Nat) x,l[i]? = some x→True:=fun _ _ _=>trivial
 refine dcZ Tryd.func23 ?_
 simp only [go_sem,hrl,bne_self_eq_false]
 iterate 4 ((try (refine drvZ Tryd.func23 ?_;simp only [go_sem,hrl,bne_self_eq_false]));((with_reducible and_intros)<;>try exact sd))
 refine Go.loopQ (fun i:Nat=>[(0,.c (.isl 5 ((l.map inX)))),(1,.c (.isl 5 ((l.map inX)))),(5,DI .i64 i)]) (fun _=>[]) 1024 (fun i=>i≤l.length) (fun i=>l.length - i) ?_ 0 some [] _ (by omega) ?_
 ·intro i hi again
  rcases Nat.lt_or_ge i l.length with hlt | hge
  ·obtain ⟨x,hx⟩:∃ x,l[i]? = some x:=⟨l[i],by simp [hlt]⟩
   have hcx:=hc x (List.mem_of_getElem? hx)
   obtain ⟨o0,a0,b0,c0,d0⟩:=x
   have hxl:((l.map inX))[i]? = some [I64 o0,I64 a0,I64 b0,I64 c0,I64 d0]:=by rw [List.getElem?_map,hx];rfl
   simp only [inX] at hcx
   generalize hRW:(l.map inX)=rows at *
   refine drvL Tryd.func23 ?_
   simp only [go_sem,hrl,hlt,hxl,bne_self_eq_false]
   iterate 6 ((try (refine drvZ Tryd.func23 ?_;simp only [go_sem,hrl,hlt,hxl,bne_self_eq_false]));((with_reducible and_intros)<;>try exact sd);(try first | refine XK.p hcx ok47 ?_ | refine XK.gp hcx ok47 ?_))
   refine again (i+1) some [] _ hlt (by omega) ?_
   simp only [go_sem,TmOK,DM,DMs,CM,CMs,forall_eq,exists_eq_left,Mq,HpOK,LowOK]
   try simp
  ·have hn:¬ i<l.length:=by omega
   generalize hRW:(l.map inX)=rows at *
   refine drvL Tryd.func23 ?_
   simp only [go_sem,hrl,hn]
   iterate 3 ((try (refine drvZ Tryd.func23 ?_;simp only [go_sem,hrl,hn]));((with_reducible and_intros)<;>try exact sd))
   exact ret _
 ·simp only [go_sem,TmOK,DM,DMs,CM,CMs,forall_eq,exists_eq_left,Mq,HpOK,LowOK]
  try simp
theorem eqInstrOf (x:In)  : DC Tryd.prog 47 [.agg (inX x),.agg (inX x)] [] (fun r h=>r=DB true∧h=[]):=by
 have hmx:=mx_eq
 have ret:∀ hp:Hp,RetOb 0 (fun r h=>r=DB true∧h=[]) (DB true) hp:=fun hp=>RetOb.plain (d:=DB true) ⟨rfl,rfl⟩ rfl
 generalize hR:(fun (r:D) (h:List (Option (List C)))=>r=DB true∧h=[])=R at ret ⊢
 clear hR
 obtain ⟨op,a,b,c',d⟩:=x
 unfold inX
 refine dcZ Tryd.func47 ?_
 simp only [go_sem,bne_self_eq_false]
 iterate 14 ((try (refine drvZ Tryd.func47 ?_;simp only [go_sem,bne_self_eq_false]));((with_reducible and_intros)<;>try exact sd))
 exact ret _
theorem eqCodeOf (c:Cd) (hv:DC Tryd.prog 22 [.c (isI c.vars),.c (isI c.vars)] [] (fun r h=>r=DB true∧h=[])) (ha:DC Tryd.prog 22 [.c (isI c.arrays),.c (isI c.arrays)] [] (fun r h=>r=DB true∧h=[])) (hb:DC Tryd.prog 23 [.c (.isl 5 (c.list.map inX)),.c (.isl 5 (c.list.map inX))] [] (fun r h=>r=DB true∧h=[])):DC Tryd.prog 9 [.agg (cdC c),.agg (cdC c)] [] (fun r h=>r=DB true∧h=[]):=by
 have hmx:=mx_eq
 have ret:∀ hp:Hp,RetOb 0 (fun r h=>r=DB true∧h=[]) (DB true) hp:=fun hp=>RetOb.plain (d:=DB true) ⟨rfl,rfl⟩ rfl
 generalize hR:(fun (r:D) (h:List (Option (List C)))=>r=DB true∧h=[])=R at ret ⊢
 clear hR
 obtain ⟨vs,ar,l⟩:=c
 simp only [cdC] at *
 refine dcZ Tryd.func9 ?_
 simp only [go_sem,bne_self_eq_false]
 iterate 14 ((try (refine drvZ Tryd.func9 ?_;simp only [go_sem,bne_self_eq_false]));((with_reducible and_intros)<;>try exact sd);(try first | refine XK.p hv ok22 ?_ | refine XK.gp hv ok22 ?_ | refine XK.p ha ok22 ?_ | refine XK.gp ha ok22 ?_ | refine XK.p hb ok23 ?_ | refine XK.gp hb ok23 ?_))
 exact ret _
theorem toInstrSOf (l:List (In)) (hl:l.length≤1048576) (hc:∀ x ∈ l,DC Tryd.prog 39 [.agg (inX x)] [] (fun r h=>r = .agg (inX x)∧h=[])):DC Tryd.prog 19 [.c (.isl 5 ((l.map inX)))] [] (fun r h=>r = .c (.isl 5 ((l.map inX)))∧h=[]):=by
 have hmx:=mx_eq
 have hrl:((l.map inX)).length=l.length:=by simp [List.length_map]
 have hrw:∀ x ∈ ((l.map inX)),x.length=5:=fun x hx=>by obtain ⟨e,_,rfl⟩:=List.mem_map.1 hx;rfl
 have hrk:∀ x ∈ ((l.map inX)),∀ c ∈ x,kf c=true:=fun x hx=>by obtain ⟨e,_,rfl⟩:=List.mem_map.1 hx;exact in_kf e
 have ret:∀ (k n:Nat) (cs:List C) (hp:Hp),hp k=some (some cs)→cs=((l.map inX)).flatten→n=l.length→RetOb 0 (fun r h=>r = .c (.isl 5 ((l.map inX)))∧h=[]) (.c (.msl k 5 0 n)) hp:=fun k n cs hp h1 h2 h3=>RetOb.frozen (xs:=(l.map inX)) ⟨rfl,rfl⟩ (by rw [h1,h2]) (by rw [h3,hrl]) hrw hrk
 generalize hR:(fun (r:D) (h:List (Option (List C)))=>r = .c (.isl 5 ((l.map inX)))∧h=[])=R at ret ⊢
 clear hR
 have hrx:∀ (i:Nat) x,l[i]? = some x→True:=fun _ _ _=>trivial
 have flr:∀ i,i≤l.length→((((l.map inX)).take i).flatten).length=i * 5:=fun i hi=>by
  have:=List.length_flatten (L:=((l.map inX)).take i)
  rw [this,show ((((l.map inX)).take i).map List.length)=List.replicate i 5 from List.eq_replicate_iff.2 ⟨by simp [hrl];omega,fun b hb=>by obtain ⟨x,hx,rfl⟩:=List.mem_map.1 hb;exact hrw x (List.mem_of_mem_take hx)⟩]
  simp
 have hzk:∀ c ∈ ([I64 0,I64 0,I64 0,I64 0,I64 0]:List C),kf c=true:=by simp [kf]
 have hbk0:∀ c ∈ (List.replicate l.length ([I64 0,I64 0,I64 0,I64 0,I64 0]:List C)).flatten,kf c=true:=fun c hc=>by
  obtain ⟨y,hy,h2⟩:=List.mem_flatten.1 hc
  rw [List.eq_of_mem_replicate hy] at h2
  exact hzk c h2
 refine dcZ Tryd.func19 ?_
 simp only [go_sem,hrl]
 iterate 4 ((try (refine drvZ Tryd.func19 ?_;simp only [go_sem,hrl]));((with_reducible and_intros)<;>try exact sd))
 refine Go.loopQ (fun i:Nat=>[(0,.c (.isl 5 ((l.map inX)))),(3,.c (.msl 192 5 0 l.length)),(4,DI .i64 i)]) (fun i=>[(192,some ((((l.map inX)).take i).flatten++(List.replicate (l.length - i) [I64 0,I64 0,I64 0,I64 0,I64 0]).flatten))]) 1024 (fun i=>i≤l.length) (fun i=>l.length - i) ?_ 0 some [] _ (by omega) ?_
 ·intro i hi again
  rcases Nat.lt_or_ge i l.length with hlt | hge
  ·obtain ⟨x,hx⟩:∃ x,l[i]? = some x:=⟨l[i],by simp [hlt]⟩
   have hcx:=hc x (List.mem_of_getElem? hx)
   obtain ⟨o0,a0,b0,c0,d0⟩:=x
   have hxl:((l.map inX))[i]? = some [I64 o0,I64 a0,I64 b0,I64 c0,I64 d0]:=by rw [List.getElem?_map,hx];rfl
   simp only [inX] at hcx
   have hput:=put_row (rows:=((l.map inX)).take i) (zs:=[I64 0,I64 0,I64 0,I64 0,I64 0]) (ds:=[I64 o0,I64 a0,I64 b0,I64 c0,I64 d0]) (m:=l.length - (i+1)) (k:=5) (i:=i) rfl rfl (flr i hi)
   rw [show l.length - (i+1)+1=l.length - i by omega,← (show ((l.map inX)).take (i+1)=((l.map inX)).take i++[[I64 o0,I64 a0,I64 b0,I64 c0,I64 d0]] by rw [List.take_succ_eq_append_getElem (by rw [hrl];exact hlt)];congr 2;exact (List.getElem?_eq_some_iff.1 hxl).2)] at hput
   have hbl:((((l.map inX)).take i).flatten++(List.replicate (l.length - i) [I64 0,I64 0,I64 0,I64 0,I64 0]).flatten).length=l.length * 5:=by
    rw [List.length_append,flr i hi]
    have:((List.replicate (l.length - i) ([I64 0,I64 0,I64 0,I64 0,I64 0]:List C)).flatten).length=(l.length - i) * 5:=by simp
    rw [this];omega
   have hbk:∀ c ∈ (((l.map inX)).take (i+1)).flatten++(List.replicate (l.length - (i+1)) ([I64 0,I64 0,I64 0,I64 0,I64 0]:List C)).flatten,kf c=true:=fun c hc=>by
    rcases List.mem_append.1 hc with h1 | h1
    ·obtain ⟨y,hy,h2⟩:=List.mem_flatten.1 h1
     exact hrk y (List.mem_of_mem_take hy) c h2
    ·obtain ⟨y,hy,h2⟩:=List.mem_flatten.1 h1
     rw [List.eq_of_mem_replicate hy] at h2
     exact hzk c h2
   generalize hB1:(((l.map inX)).take i).flatten++(List.replicate (l.length - i) ([I64 0,I64 0,I64 0,I64 0,I64 0]:List C)).flatten=B1 at *
   generalize hB2:(((l.map inX)).take (i+1)).flatten++(List.replicate (l.length - (i+1)) ([I64 0,I64 0,I64 0,I64 0,I64 0]:List C)).flatten=B2 at *
   generalize hRW:(l.map inX)=rows at *
   refine drvL Tryd.func19 ?_
   simp only [go_sem,hrl,hlt,hxl]
   iterate 6 ((try (refine drvZ Tryd.func19 ?_;simp only [go_sem,hrl,hlt,hxl,hput]));((with_reducible and_intros)<;>try exact sd);(try first | refine XK.p hcx ok39 ?_ | refine XK.gp hcx ok39 ?_))
   simp only [putCells] at hput
   refine again (i+1) some [] _ hlt (by omega) ?_
   simp only [go_sem,TmOK,DM,DMs,CM,CMs,forall_eq,exists_eq_left,Mq,HpOK,LowOK,hput,hRW,hB2]
   exact ⟨⟨by simp,CMs.kf hbk⟩,by simp⟩
  ·obtain rfl:i=l.length:=by omega
   have hn:¬ l.length<l.length:=by omega
   have he:(((l.map inX)).take l.length).flatten++(List.replicate (l.length - l.length) ([I64 0,I64 0,I64 0,I64 0,I64 0]:List C)).flatten=((l.map inX)).flatten:=by
    rw [List.take_of_length_le (by rw [hrl];exact Nat.le_refl _),Nat.sub_self];simp
   generalize hB1:(((l.map inX)).take l.length).flatten++(List.replicate (l.length - l.length) ([I64 0,I64 0,I64 0,I64 0,I64 0]:List C)).flatten=B1 at *
   generalize hRW:(l.map inX)=rows at *
   refine drvL Tryd.func19 ?_
   simp only [go_sem,hrl,hn]
   iterate 3 ((try (refine drvZ Tryd.func19 ?_;simp only [go_sem,hrl,hn]));((with_reducible and_intros)<;>try exact sd))
   exact ret _ _ _ _ rfl he rfl
 ·simp only [go_sem,TmOK,DM,DMs,CM,CMs,forall_eq,exists_eq_left,Mq,HpOK,LowOK]
  refine ⟨⟨by simp,?_⟩,by simp⟩
  have e0:([]:List (List C)).flatten++(List.replicate l.length ([I64 0,I64 0,I64 0,I64 0,I64 0]:List C)).flatten=(List.replicate l.length ([I64 0,I64 0,I64 0,I64 0,I64 0]:List C)).flatten:=rfl
  exact CMs.kf hbk0
theorem toInstrOf (x:In)  : DC Tryd.prog 39 [.agg (inX x)] [] (fun r h=>r = .agg (inX x)∧h=[]):=by
 have hmx:=mx_eq
 obtain ⟨op,a,b,c',d⟩:=x
 unfold inX
 refine dcZ Tryd.func39 ?_
 simp only [go_sem]
 iterate 14 ((try (refine drvZ Tryd.func39 ?_;simp only [go_sem]));((with_reducible and_intros)<;>try exact sd))
 refine RetOb.ofQ (fun _=>none) [] (.agg [I64 op,I64 a,I64 b,I64 c',I64 d]) [] ?_ ⟨rfl,rfl⟩ (by simp)
 all_goals simp [Pg.cells,Mm.cells,St1.cells,Ex.cells,isI,enumL,DM,DMs,CM,CMs,HpOK,LowOK,hOf,upd,kf]
theorem toCodeOf (c:Cd) (hv:DC Tryd.prog 18 [.c (isI c.vars)] [] (fun r h=>r = .c (isI c.vars)∧h=[])) (ha:DC Tryd.prog 18 [.c (isI c.arrays)] [] (fun r h=>r = .c (isI c.arrays)∧h=[])) (hb:DC Tryd.prog 19 [.c (.isl 5 (c.list.map inX))] [] (fun r h=>r = .c (.isl 5 (c.list.map inX))∧h=[])):DC Tryd.prog 7 [.agg (cdC c)] [] (fun r h=>r = .agg (cdC c)∧h=[]):=by
 have hmx:=mx_eq
 obtain ⟨vs,ar,l⟩:=c
 simp only [cdC] at *
 refine dcZ Tryd.func7 ?_
 simp only [go_sem]
 iterate 14 ((try (refine drvZ Tryd.func7 ?_;simp only [go_sem]));((with_reducible and_intros)<;>try exact sd);(try first | refine XK.p hv ok18 ?_ | refine XK.gp hv ok18 ?_ | refine XK.p ha ok18 ?_ | refine XK.gp ha ok18 ?_ | refine XK.p hb ok19 ?_ | refine XK.gp hb ok19 ?_))
 refine RetOb.ofQ (fun _=>none) [] (.agg [isI vs,isI ar,.isl 5 (l.map inX)]) [] ?_ ⟨rfl,rfl⟩ (by simp)
 all_goals simp [Pg.cells,Mm.cells,St1.cells,Ex.cells,isI,enumL,DM,DMs,CM,CMs,HpOK,LowOK,hOf,upd,kf]
theorem szCodeOf (c : Cd) (hv : ∀ left : Int, 0 ≤ left → left ≤ 1048576 → DC Tryd.prog 13 [.c (isI c.vars), DI .i64 left] [] (fun r h => r = DI .i64 (subZ left (c.vars.length)) ∧ h = [])) (ha : ∀ left : Int, 0 ≤ left → left ≤ 1048576 → DC Tryd.prog 13 [.c (isI c.arrays), DI .i64 left] [] (fun r h => r = DI .i64 (subZ left (c.arrays.length)) ∧ h = [])) (hb : ∀ left : Int, 0 ≤ left → left ≤ 1048576 → DC Tryd.prog 14 [.c (.isl 5 (c.list.map inX)), DI .i64 left] [] (fun r h => r = DI .i64 (subZ left (c.list.length)) ∧ h = [])) (left : Int) (h0 : 0 ≤ left) (h1 : left ≤ 1048576) :
 DC Tryd.prog 5 [.agg (cdC c),DI .i64 left] [] (fun r h=>r=DI .i64 (subZ left (c.vars.length+c.arrays.length+c.list.length))∧h=[]):=by
 have hmx:=mx_eq
 have ret:∀ (u:Int) (hp:Hp),u=subZ left (c.vars.length+c.arrays.length+c.list.length)→RetOb 0 (fun r h=>r=DI .i64 (subZ left (c.vars.length+c.arrays.length+c.list.length))∧h=[]) (DI .i64 u) hp:=fun u hp h=>RetOb.plain (d:=DI .i64 _) ⟨by rw [h],rfl⟩ rfl
 generalize hR:(fun (r:D) (h:List (Option (List C)))=>r=DI .i64 (subZ left (c.vars.length+c.arrays.length+c.list.length))∧h=[])=R at ret ⊢
 clear hR
 obtain ⟨vs,ar,l⟩:=c
 simp only [cdC] at *
 generalize hz1:vs.length=z1 at *
 generalize hz2:ar.length=z2 at *
 generalize hz3:l.length=z3 at *
 have k0:=hv (left) (by omega) (by omega)
 by_cases q0:((z1:Nat):Int)≤left
 ·rw [subZ,if_pos q0] at k0
  have g0:(left - ((z1:Nat):Int)<0)=False:=eq_false (by omega)
  have k1:=ha (left - ((z1:Nat):Int)) (by omega) (by omega)
  by_cases q1:((z2:Nat):Int)≤left - ((z1:Nat):Int)
  ·rw [subZ,if_pos q1] at k1
   have g1:(left - ((z1:Nat):Int) - ((z2:Nat):Int)<0)=False:=eq_false (by omega)
   have k2:=hb (left - ((z1:Nat):Int) - ((z2:Nat):Int)) (by omega) (by omega)
   by_cases q2:((z3:Nat):Int)≤left - ((z1:Nat):Int) - ((z2:Nat):Int)
   ·rw [subZ,if_pos q2] at k2
    have g2:(left - ((z1:Nat):Int) - ((z2:Nat):Int) - ((z3:Nat):Int)<0)=False:=eq_false (by omega)
    refine dcZ Tryd.func5 ?_
    simp only [go_sem,g0,g1,g2]
    iterate 13 ((try (refine drvZ Tryd.func5 ?_;simp only [go_sem,g0,g1,g2]));((with_reducible and_intros)<;>try exact sd);(try first | refine XK.p k0 ok13 ?_ | refine XK.gp k0 ok13 ?_ | refine XK.p k1 ok13 ?_ | refine XK.gp k1 ok13 ?_ | refine XK.p k2 ok14 ?_ | refine XK.gp k2 ok14 ?_))
    exact ret _ _ (by rw [subZ,if_pos (by omega)]<;>omega)
   ·rw [subZ,if_neg q2] at k2
    refine dcZ Tryd.func5 ?_
    simp only [go_sem,g0,g1]
    iterate 13 ((try (refine drvZ Tryd.func5 ?_;simp only [go_sem,g0,g1]));((with_reducible and_intros)<;>try exact sd);(try first | refine XK.p k0 ok13 ?_ | refine XK.gp k0 ok13 ?_ | refine XK.p k1 ok13 ?_ | refine XK.gp k1 ok13 ?_ | refine XK.p k2 ok14 ?_ | refine XK.gp k2 ok14 ?_))
    exact ret _ _ (by rw [subZ,if_neg (by omega)])
  ·rw [subZ,if_neg q1] at k1
   refine dcZ Tryd.func5 ?_
   simp only [go_sem,g0]
   iterate 13 ((try (refine drvZ Tryd.func5 ?_;simp only [go_sem,g0]));((with_reducible and_intros)<;>try exact sd);(try first | refine XK.p k0 ok13 ?_ | refine XK.gp k0 ok13 ?_ | refine XK.p k1 ok13 ?_ | refine XK.gp k1 ok13 ?_))
   exact ret _ _ (by rw [subZ,if_neg (by omega)])
 ·rw [subZ,if_neg q0] at k0
  refine dcZ Tryd.func5 ?_
  simp only [go_sem]
  iterate 13 ((try (refine drvZ Tryd.func5 ?_;simp only [go_sem]));((with_reducible and_intros)<;>try exact sd);(try first | refine XK.p k0 ok13 ?_ | refine XK.gp k0 ok13 ?_))
  exact ret _ _ (by rw [subZ,if_neg (by omega)])
theorem szCode_c (c:Cd) (hb:CdB c) (left:Int) (h0:0≤left) (h1:left≤1048576):DC Tryd.prog 5 [.agg (cdC c),DI .i64 left] [] (fun r h=>r=DI .i64 (subZ left (szC c))∧h=[]) :=
 szCodeOf c (fun l a b=>szIntS c.vars hb.nv l a b) (fun l a b=>szIntS c.arrays hb.na l a b) (fun l a b=>szInstrS c.list hb.nl l a b) left h0 h1
theorem toCode_c (c:Cd) (hb:CdN c):DC Tryd.prog 7 [.agg (cdC c)] [] (fun r h=>r = .agg (cdC c)∧h=[]) :=
 toCodeOf c (toIntST c.vars hb.nv) (toIntST c.arrays hb.na) (toInstrSOf c.list hb.nl fun x _=>toInstrOf x)
theorem eqCode_c (c:Cd) (hb:CdB c):DC Tryd.prog 9 [.agg (cdC c),.agg (cdC c)] [] (fun r h=>r=DB true∧h=[]) :=
 eqCodeOf c (eqIntST c.vars hb.nv) (eqIntST c.arrays hb.na) (eqInstrSOf c.list hb.nl fun x _=>eqInstrOf x)
open CtL (In Cd)
theorem celX5:Tryd.prog.cellsOf 67=5:=by kernel_rfl
theorem sh_instr {ks:List C} (h:Sh Tryd.prog 67 ks):∃ x:In,ks=inX x∧True:=by
 obtain ⟨kss,rfl,hl,hx⟩:=h.st_of Tryd.underlying67
 match kss,hl,hx with
 | [a,b,c,d,e],_,hx =>
  obtain ⟨n0,rfl,_⟩:=sh_int (hx 0 _ a rfl rfl)
  obtain ⟨n1,rfl,_⟩:=sh_int (hx 1 _ b rfl rfl)
  obtain ⟨n2,rfl,_⟩:=sh_int (hx 2 _ c rfl rfl)
  obtain ⟨n3,rfl,_⟩:=sh_int (hx 3 _ d rfl rfl)
  obtain ⟨n4,rfl,_⟩:=sh_int (hx 4 _ e rfl rfl)
  exact ⟨⟨n0,n1,n2,n3,n4⟩,rfl,trivial⟩
theorem sh_code {ks:List C} (h:Sh Tryd.prog 25 ks):∃ c:Cd,ks=cdC c∧CdB c:=by
 obtain ⟨kss,rfl,hl,hx⟩:=h.st_of Tryd.underlying25
 match kss,hl,hx with
 | [a,b,c],_,hx =>
  obtain ⟨vs,rfl,h1⟩:=sh_ints (hx 0 _ a rfl rfl)
  obtain ⟨ar,rfl,h2⟩:=sh_ints (hx 1 _ b rfl rfl)
  obtain ⟨l,rfl,h3,_⟩:=(hx 2 _ c rfl rfl).rows_of (f:=inX) (Q:=fun _=>True) Tryd.underlying23 fun r hr=>sh_instr hr
  exact ⟨⟨vs,ar,l⟩,by rw [celX5];rfl,⟨h1,h2,h3⟩⟩
theorem TL.nil {tm:Nat→Option D}:∀ p ∈ ([]:List (Nat × D)),tm p.1=some p.2∧WsD p.2:=fun p h=>by simp at h
theorem TL.cons {tm:Nat→Option D} {n:Nat} {d:D} {l:List (Nat × D)} (h1:tm n=some d) (h2:WsD d) (h:∀ p ∈ l,tm p.1=some p.2∧WsD p.2):∀ p ∈ (n,d) :: l,tm p.1=some p.2∧WsD p.2:=fun p hp=>by
 rcases List.mem_cons.1 hp with rfl | hp
 ·exact ⟨h1,h2⟩
 ·exact h p hp
theorem ML.nil {hT:Hp} {tm:Nat→Option D}:∀ p ∈ ([]:List (Nat × D)),∃ d,tm p.1=some d∧SmD hT d p.2:=fun p h=>by simp at h
theorem ML.cons {hT:Hp} {tm:Nat→Option D} {n:Nat} {d0 d:D} {l:List (Nat × D)} (h1:tm n=some d0) (h2:SmD hT d0 d) (h:∀ p ∈ l,∃ d,tm p.1=some d∧SmD hT d p.2):∀ p ∈ (n,d) :: l,∃ d,tm p.1=some d∧SmD hT d p.2:=fun p hp=>by
 rcases List.mem_cons.1 hp with rfl | hp
 ·exact ⟨d0,h1,h2⟩
 ·exact h p hp
theorem HL.nil {hT hp:Hp}:∀ p ∈ ([]:List (Nat × Option (List C))),∃ cs cs',hp p.1=some (some cs)∧p.2=some cs'∧Sms hT cs cs':=fun p h=>by simp at h
theorem HL.cons {hT hp : Hp} {n : Nat} {cs0 cs1 : List C} {l : List (Nat × Option (List C))} (h1 : hp n = some (some cs0)) (h2 : Sms hT cs0 cs1) (h : ∀ p ∈ l, ∃ cs cs', hp p.1 = some (some cs) ∧ p.2 = some cs' ∧ Sms hT cs cs') :
 ∀ p ∈ (n,some cs1) :: l,∃ cs cs',hp p.1=some (some cs)∧p.2=some cs'∧Sms hT cs cs':=fun p hp=>by
 rcases List.mem_cons.1 hp with rfl | hp
 ·exact ⟨cs0,cs1,h1,rfl,h2⟩
 ·exact h p hp
end Go.Proofs.YtoakidkcppinpaaDoor.CtD
