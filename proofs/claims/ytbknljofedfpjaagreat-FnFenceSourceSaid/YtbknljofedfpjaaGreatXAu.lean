/- Contracts of functions of the program, one behind the other, as plain data: what each call returns and which blocks it leaves. -/
import Derived.Test.YtbknljofedfpjaaGreatXFacts
import Derived.Test.YtbknljofedfpjaaGreatXAi
import Derived.Test.YtbknljofedfpjaaGreatXAk
import Derived.Test.YtbknljofedfpjaaGreatXAo
import Derived.Test.YtbknljofedfpjaaGreatXAq
import Derived.Test.YtbknljofedfpjaaGreatXAr
import Derived.Test.YtbknljofedfpjaaGreatXAs
import Derived.Test.YtbknljofedfpjaaGreatXAm
import Derived.Test.YtbknljofedfpjaaGreatXAp
set_option linter.unusedVariables false
set_option linter.unusedSimpArgs false
set_option linter.unusedSectionVars false
set_option maxHeartbeats 16000000
set_option maxRecDepth 100000
namespace Go.Proofs.YtbknljofedfpjaaGreat.CtD
open Go Go.CT CtF CtR
variable [Yn]
open CtL (In Cd)
theorem equalIn (xs:List In) (hl:xs.length≤mx):DC Tryz.prog 46 [.c (.isl 5 (xs.map inX)),.c (.isl 5 (xs.map inX))] [] (fun r h=>r=DB true∧h=[]):=by
 have hmx:=mx_eq
 refine dcZ Tryz.func46 ?_
 simp only [go_sem,bne_self_eq_false]
 iterate 2 ((try (refine drvZ Tryz.func46 ?_;simp only [go_sem,bne_self_eq_false]));((with_reducible and_intros)<;>try exact sd))
 refine Go.loopQ (fun i:Nat=>[(0,.c (.isl 5 (xs.map inX))),(1,.c (.isl 5 (xs.map inX))),(12,DI .i64 xs.length),(13,DI .i64 i)]) (fun _=>[]) 1024 (fun i=>i≤xs.length) (fun i=>xs.length - i) ?_ 0 some [] _ (Nat.zero_le _) ?_
 ·intro i hi again
  rcases Nat.lt_or_ge i xs.length with hlt | hge
  ·obtain ⟨⟨op,a,b,c,d⟩,hx⟩:∃ x,xs[i]? = some x:=⟨xs[i],by simp [hlt]⟩
   refine drvL Tryz.func46 ?_
   simp only [go_sem,hx,hlt,inX]
   iterate 4 ((try (refine drvZ Tryz.func46 ?_;simp only [go_sem,hx,hlt,inX,bne_self_eq_false,beq_self_eq_true]));((with_reducible and_intros)<;>try exact sd))
   refine again (i+1) some [] _ hlt (by omega) ?_
   simp only [go_sem,TmOK,DM,DMs,CM,CMs,forall_eq,exists_eq_left,Mq,HpOK,LowOK]
   try simp
  ·have hn:¬ i<xs.length:=by omega
   refine drvL Tryz.func46 ?_
   simp only [go_sem,hn]
   iterate 3 ((try (refine drvZ Tryz.func46 ?_;simp only [go_sem,hn]));((with_reducible and_intros)<;>try exact sd))
   exact RetOb.plain (d:=DB true) ⟨rfl,rfl⟩ rfl
 ·simp only [go_sem,TmOK,DM,DMs,CM,CMs,forall_eq,exists_eq_left,Mq,HpOK,LowOK]
  try simp
theorem codeSame (c:Cd) (h1:c.vars.length≤mx) (h2:c.arrays.length≤mx) (h3:c.list.length≤mx):DC Tryz.prog 11 [.agg (cdC c),.agg (cdC c)] [] (fun r h=>r=DB true∧h=[]):=by
 have hmx:=mx_eq
 have e1:=equalI c.vars c.vars h1
 have e2:=equalI c.arrays c.arrays h2
 have e3:=equalIn c.list h3
 rw [decide_eq_true rfl] at e1 e2
 unfold cdC
 refine dcZ Tryz.func11 ?_
 simp only [go_sem]
 iterate 6 ((try (refine drvZ Tryz.func11 ?_;simp only [go_sem]));((with_reducible and_intros)<;>try exact sd);(try first | refine XK.p e1 ok45 ?_ | refine XK.gp e1 ok45 ?_ | refine XK.p e2 ok45 ?_ | refine XK.gp e2 ok45 ?_ | refine XK.p e3 ok46 ?_ | refine XK.gp e3 ok46 ?_))
 exact RetOb.plain (d:=DB true) ⟨rfl,rfl⟩ rfl
open CtL (In Cd kindsOf topOf fOK inOK endOK codeOK)
def ltr (k:Nat):UInt8:=if k=0 then 45 else if k=1 then 114 else if k=2 then 110 else if k=3 then 118 else if k=4 then 97 else if k=5 then 111 else 105
def shp (op:Int):ByteArray:=⟨#[ltr ((kindsOf op).getD 0 0),ltr ((kindsOf op).getD 1 0),ltr ((kindsOf op).getD 2 0),ltr ((kindsOf op).getD 3 0)]⟩
theorem shapeI (op:Int) (h:1≤op∧op≤13):DC Tryz.prog 136 [DI .i64 op] [] (fun r h=>r=DS (shp op)∧h=[]):=by
 have hmx:=mx_eq
 have hw:=CtR.within op 1 13
 have key:op=1∨op=2∨op=3∨op=4∨op=5∨op=6∨op=7∨op=8∨op=9∨op=10∨op=11∨op=12∨op=13:=by omega
 rcases key with rfl | rfl | rfl | rfl | rfl | rfl | rfl | rfl | rfl | rfl | rfl | rfl | rfl
 all_goals
  refine dcZ Tryz.func136 ?_
  simp only [go_sem]
  iterate 4 ((try (refine drvZ Tryz.func136 ?_;simp only [go_sem,Int.reduceLE,Int.reduceSub,Int.reduceToNat]));((with_reducible and_intros)<;>try exact sd);(try first | refine XK.p hw ok70 ?_ | refine XK.gp hw ok70 ?_))
  exact RetOb.plain (d:=DS _) ⟨rfl,rfl⟩ rfl
theorem fieldOkT (c : Cd) (h1 : c.vars.length ≤ mx) (h2 : c.arrays.length ≤ mx) (h3 : c.list.length ≤ mx) (k : Nat) (hk : k ≤ 6) (n : Int) (h : fOK c.vars.length c.arrays.length c.list.length k n = true) :
 DC Tryz.prog 138 [.agg (cdC c),.c (.v (.int .u8 (ltr k).toNat)),DI .i64 n] [] (fun r h=>r=DB true∧h=[]):=by
 have hmx:=mx_eq
 have hw:=fun hi=>CtR.within n 0 hi
 have hw4:=CtR.within n 4 10
 obtain ⟨vs,ar,ls⟩:=c
 simp only at h1 h2 h3 h
 simp only [fOK,topOf,Bool.and_eq_true,decide_eq_true_eq] at h
 have key:k=0∨k=1∨k=2∨k=3∨k=4∨k=5∨k=6:=by omega
 unfold cdC
 rcases key with rfl | rfl | rfl | rfl | rfl | rfl | rfl
 ·rw [show (((ltr 0).toNat:Nat):Int)=45 from rfl]
  obtain rfl:n=0:=by simp at h;omega
  refine dcZ Tryz.func138 ?_
  simp only [go_sem]
  iterate 9 ((try (refine drvZ Tryz.func138 ?_;simp only [go_sem]));((with_reducible and_intros)<;>try exact sd))
  exact RetOb.plain (d:=DB true) ⟨rfl,rfl⟩ rfl
 ·rw [show (((ltr 1).toNat:Nat):Int)=114 from rfl]
  have g1:decide (0≤n)=true:=by simp at h ⊢;omega
  have g2:decide (n≤13)=true:=by simp at h ⊢;omega
  have hw:=hw (13)
  rw [g1,g2] at hw
  refine dcZ Tryz.func138 ?_
  simp only [go_sem]
  iterate 10 ((try (refine drvZ Tryz.func138 ?_;simp only [go_sem,Int.reduceLE,List.length_map]));((with_reducible and_intros)<;>try exact sd);(try first | refine XK.p hw ok70 ?_ | refine XK.gp hw ok70 ?_))
  exact RetOb.plain (d:=DB true) ⟨rfl,rfl⟩ rfl
 ·rw [show (((ltr 2).toNat:Nat):Int)=110 from rfl]
  have g1:decide (0≤n)=true:=by simp at h ⊢;omega
  have g2:decide (n≤255)=true:=by simp at h ⊢;omega
  have hw:=hw (255)
  rw [g1,g2] at hw
  refine dcZ Tryz.func138 ?_
  simp only [go_sem]
  iterate 10 ((try (refine drvZ Tryz.func138 ?_;simp only [go_sem,Int.reduceLE,List.length_map]));((with_reducible and_intros)<;>try exact sd);(try first | refine XK.p hw ok70 ?_ | refine XK.gp hw ok70 ?_))
  exact RetOb.plain (d:=DB true) ⟨rfl,rfl⟩ rfl
 ·rw [show (((ltr 3).toNat:Nat):Int)=118 from rfl]
  have g1:decide (0≤n)=true:=by simp at h ⊢;omega
  have g2:decide (n≤(vs.length:Int) - 1)=true:=by simp at h ⊢;omega
  have hw:=hw ((vs.length:Int) - 1)
  rw [g1,g2] at hw
  refine dcZ Tryz.func138 ?_
  simp only [go_sem]
  iterate 10 ((try (refine drvZ Tryz.func138 ?_;simp only [go_sem,Int.reduceLE,List.length_map]));((with_reducible and_intros)<;>try exact sd);(try first | refine XK.p hw ok70 ?_ | refine XK.gp hw ok70 ?_))
  exact RetOb.plain (d:=DB true) ⟨rfl,rfl⟩ rfl
 ·rw [show (((ltr 4).toNat:Nat):Int)=97 from rfl]
  have g1:decide (0≤n)=true:=by simp at h ⊢;omega
  have g2:decide (n≤(ar.length:Int) - 1)=true:=by simp at h ⊢;omega
  have hw:=hw ((ar.length:Int) - 1)
  rw [g1,g2] at hw
  refine dcZ Tryz.func138 ?_
  simp only [go_sem]
  iterate 10 ((try (refine drvZ Tryz.func138 ?_;simp only [go_sem,Int.reduceLE,List.length_map]));((with_reducible and_intros)<;>try exact sd);(try first | refine XK.p hw ok70 ?_ | refine XK.gp hw ok70 ?_))
  exact RetOb.plain (d:=DB true) ⟨rfl,rfl⟩ rfl
 ·rw [show (((ltr 5).toNat:Nat):Int)=111 from rfl]
  have g1:decide (4≤n)=true:=by simp at h ⊢;omega
  have g2:decide (n≤10)=true:=by simp at h ⊢;omega
  rw [g1,g2] at hw4
  refine dcZ Tryz.func138 ?_
  simp only [go_sem]
  iterate 10 ((try (refine drvZ Tryz.func138 ?_;simp only [go_sem,Int.reduceLE,List.length_map]));((with_reducible and_intros)<;>try exact sd);(try first | refine XK.p hw4 ok70 ?_ | refine XK.gp hw4 ok70 ?_))
  exact RetOb.plain (d:=DB true) ⟨rfl,rfl⟩ rfl
 ·rw [show (((ltr 6).toNat:Nat):Int)=105 from rfl]
  have g1:decide (0≤n)=true:=by simp at h ⊢;omega
  have g2:decide (n≤(ls.length:Int) - 1)=true:=by simp at h ⊢;omega
  have hw:=hw ((ls.length:Int) - 1)
  rw [g1,g2] at hw
  refine dcZ Tryz.func138 ?_
  simp only [go_sem]
  iterate 10 ((try (refine drvZ Tryz.func138 ?_;simp only [go_sem,Int.reduceLE,List.length_map]));((with_reducible and_intros)<;>try exact sd);(try first | refine XK.p hw ok70 ?_ | refine XK.gp hw ok70 ?_))
  exact RetOb.plain (d:=DB true) ⟨rfl,rfl⟩ rfl
theorem fieldsI (x:In):DC Tryz.prog 137 [.agg (inX x)] [] (fun r h=>r = .c (isI [x.a,x.b,x.c,x.d])∧h=[]):=by
 have hmx:=mx_eq
 obtain ⟨op,a,b,c,d⟩:=x
 unfold inX
 refine dcZ Tryz.func137 ?_
 simp only [go_sem]
 iterate 3 ((try (refine drvZ Tryz.func137 ?_;simp only [go_sem]));((with_reducible and_intros)<;>try exact sd))
 refine RetOb.ofQ (fun _=>none) [640] (.c (isI [a,b,c,d])) [] ?_ ⟨rfl,rfl⟩ (by simp)
 simp [enumL,hOf,DM,CM,CMs,HpOK,LowOK,upd,kf,isI]
theorem kinds_le (op:Int) (i:Nat):(kindsOf op).getD i 0≤6:=by
 have:∀ l:List Nat,(∀ x ∈ l,x≤6)→l.getD i 0≤6:=fun l h=>by
  rw [List.getD_eq_getElem?_getD]
  cases hx:l[i]? with
  | none=>simp
  | some x=>simpa using h x (List.mem_of_getElem? hx)
 apply this
 unfold kindsOf
 repeat' split
 all_goals simp
theorem shp_at (op:Int) (i:Nat) (h:i<4):(shp op).data.toList.getD i 0=ltr ((kindsOf op).getD i 0):=by
 have:i=0∨i=1∨i=2∨i=3:=by omega
 rcases this with rfl | rfl | rfl | rfl<;>rfl
theorem toList_nil:ByteArray.toList { data:=#[] }=[]:=by
 unfold ByteArray.toList
 unfold ByteArray.toList.loop
 rfl
theorem loop_len (bs : ByteArray) : ∀ (n i : Nat) (r : List UInt8), bs.size - i = n → (ByteArray.toList.loop bs i r).length = r.length + n
 | 0,i,r,h=>by
  unfold ByteArray.toList.loop
  rw [if_neg (by omega)];simp
 | n+1,i,r,h=>by
  unfold ByteArray.toList.loop
  rw [if_pos (by omega),loop_len bs n (i+1) _ (by omega)]
  simp only [List.length_cons];omega
theorem shp_ne (op:Int) (h:1≤op∧op≤13):((shp op).toList == (ByteArray.toList { data:=#[] }))=false:=by
 rw [toList_nil,beq_eq_false_iff_ne]
 intro he
 have:=loop_len (shp op) 4 0 [] rfl
 unfold ByteArray.toList at he
 rw [he] at this
 simp at this
theorem instrOkT (c : Cd) (h1 : c.vars.length ≤ mx) (h2 : c.arrays.length ≤ mx) (h3 : c.list.length ≤ mx) (x : In) (h : inOK c.vars.length c.arrays.length c.list.length x = true) :
 DC Tryz.prog 96 [.agg (cdC c),.agg (inX x)] [] (fun r h=>r=DB true∧h=[]):=by
 have hmx:=mx_eq
 have hf:=fun k hk n hn=>fieldOkT c h1 h2 h3 k hk n hn
 have hfi:=fieldsI x
 obtain ⟨op,a,b,c',d⟩:=x
 simp only [inOK,Bool.and_eq_true,decide_eq_true_eq] at h
 obtain ⟨⟨⟨⟨⟨o1,o2⟩,q0⟩,q1⟩,q2⟩,q3⟩:=h
 have hsh:=shapeI op ⟨o1,o2⟩
 have hq:∀ i:Nat,i<4→fOK c.vars.length c.arrays.length c.list.length ((kindsOf op).getD i 0) ([a,b,c',d].getD i 0)=true:=fun i hi=>by
  have:i=0∨i=1∨i=2∨i=3:=by omega
  rcases this with rfl | rfl | rfl | rfl<;>assumption
 have hsz:(shp op).size=4:=rfl
 have hse:((shp op).toList == (ByteArray.toList { data:=#[] }))=false:=shp_ne op ⟨o1,o2⟩
 unfold cdC at hf ⊢
 unfold inX at hfi
 unfold inX
 refine dcZ Tryz.func96 ?_
 simp only [go_sem]
 iterate 5 ((try (refine drvZ Tryz.func96 ?_;simp only [go_sem]));((with_reducible and_intros)<;>try exact sd);(try first | refine XK.p hsh ok136 ?_ | refine XK.gp hsh ok136 ?_ | refine XK.p hfi ok137 ?_ | refine XK.gp hfi ok137 ?_))
 refine Go.loopQ (fun i : Nat => [(2, .c (.ptr 0 0)), (5, DS (shp op)), (12, .c (.isl 1 [[I64 a], [I64 b], [I64 c'], [I64 d]])), (13, DI .i64 4), (14, DI .i64 i)]) (fun _ => [(0, some [isI c.vars, isI c.arrays, .isl 5 (c.list.map inX)])])
  4096 (fun i=>i≤4) (fun i=>4 - i) ?_ 0 some [] _ (by omega) ?_
 ·intro i hi again
  rcases Nat.lt_or_ge i 4 with hlt | hge
  ·have hx:[[I64 a],[I64 b],[I64 c'],[I64 d]][i]? = some [I64 ([a,b,c',d].getD i 0)]:=by
    have:i=0∨i=1∨i=2∨i=3:=by omega
    rcases this with rfl | rfl | rfl | rfl<;>rfl
   have hc:=hf _ (kinds_le op i) _ (hq i hlt)
   have hat:=shp_at op i hlt
   have hlt':(i:Int)<4:=by omega
   generalize [a,b,c',d].getD i 0=n at *
   generalize (kindsOf op).getD i 0=k at *
   generalize [[I64 a],[I64 b],[I64 c'],[I64 d]]=fl at *
   generalize shp op=sp at *
   refine drvL Tryz.func96 ?_
   simp only [go_sem,hlt']
   iterate 5 ((try (refine drvZ Tryz.func96 ?_;simp only [go_sem,hx,hlt',hat,hsz,hse]));((with_reducible and_intros)<;>try exact sd);(try first | refine XK.p hc ok138 ?_ | refine XK.gp hc ok138 ?_))
   refine again (i+1) some [] _ (by omega) (by omega) ?_
   simp only [go_sem,TmOK,DM,DMs,CM,CMs,forall_eq,exists_eq_left,Mq,HpOK,LowOK]
   try simp
  ·obtain rfl:i=4:=by omega
   have h44:(((4:Nat):Int)<4)=False:=eq_false (by decide)
   refine drvL Tryz.func96 ?_
   simp only [go_sem,h44]
   iterate 3 ((try (refine drvZ Tryz.func96 ?_;simp only [go_sem,h44]));((with_reducible and_intros)<;>try exact sd))
   exact RetOb.plain (d:=DB true) ⟨rfl,rfl⟩ rfl
 ·simp only [go_sem,TmOK,DM,DMs,CM,CMs,forall_eq,exists_eq_left,Mq,HpOK,LowOK]
  simp
  exact fun a _=>rfl
open CtL (In Cd kindsOf topOf fOK inOK endOK codeOK atC halt)
theorem cvFn (c : Cd) (h1 : c.vars.length ≤ mx) (h2 : c.arrays.length ≤ mx) (h3 : c.list.length ≤ mx) (x : In) (h : inOK c.vars.length c.arrays.length c.list.length x = true) :
 DC Tryz.prog 95 [.agg (inX x),.c (.eptr (cdC c))] [] (fun r h=>r=DB false∧h=[]):=by
 have hio:=instrOkT c h1 h2 h3 x h
 unfold cdC at hio ⊢
 obtain ⟨op,a,b,c',d⟩:=x
 unfold inX at hio ⊢
 refine dcZ Tryz.func95 ?_
 simp only [go_sem]
 iterate 4 ((try (refine drvZ Tryz.func95 ?_;simp only [go_sem]));((with_reducible and_intros)<;>try exact sd);(try first | refine XK.p hio ok96 ?_ | refine XK.gp hio ok96 ?_))
 exact RetOb.plain (d:=DB false) ⟨rfl,rfl⟩ rfl
theorem indexFuncN (cc : List C) (xs : List In) (hl : xs.length ≤ mx) (hg : ∀ x ∈ xs, DC Tryz.prog 95 [.agg (inX x), .c (.eptr cc)] [] (fun r h => r = DB false ∧ h = [])) :
 DC Tryz.prog 127 [.c (.isl 5 (xs.map inX)),.c (.clo 95 [.eptr cc])] [] (fun d h=>d=DI .i64 (-1)∧h=[]):=by
 have hmx:=mx_eq
 refine dcZ Tryz.func127 ?_
 simp only [go_sem]
 ((try (refine drvZ Tryz.func127 ?_;simp only [go_sem]));((with_reducible and_intros)<;>try exact sd))
 refine Go.loopQ (fun i:Nat=>[(0,.c (.isl 5 (xs.map inX))),(1,.c (.clo 95 [.eptr cc])),(7,DI .i64 xs.length),(8,DI .i64 i)]) (fun _=>[]) 1024 (fun i=>i≤xs.length) (fun i=>xs.length - i) ?_ 0 some [] _ (Nat.zero_le _) ?_
 ·intro i hi again
  rcases Nat.lt_or_ge i xs.length with hlt | hge
  ·obtain ⟨⟨op,a,b,c,d⟩,hx⟩:∃ x,xs[i]? = some x:=⟨xs[i],by simp [hlt]⟩
   have hgx:=hg _ (List.mem_of_getElem? hx)
   simp only [inX] at hgx
   refine drvL Tryz.func127 ?_
   simp only [go_sem,hx,hlt,inX]
   iterate 5 ((try (refine drvZ Tryz.func127 ?_;simp only [go_sem,hx,hlt,inX]));((with_reducible and_intros)<;>try exact sd);(try first | refine XK.p hgx ok95 ?_ | refine XK.gp hgx ok95 ?_))
   refine again (i+1) some [] _ hlt (by omega) ?_
   simp only [go_sem,TmOK,DM,DMs,CM,CMs,forall_eq,exists_eq_left,Mq,HpOK,LowOK]
   first | done | (simp;done) | (simp;exact CM.kf rfl) | exact CM.kf rfl
  ·have hn:¬ i<xs.length:=by omega
   refine drvL Tryz.func127 ?_
   simp only [go_sem,hn]
   iterate 3 ((try (refine drvZ Tryz.func127 ?_;simp only [go_sem,hn]));((with_reducible and_intros)<;>try exact sd))
   exact RetOb.plain (d:=DI .i64 (-1)) ⟨rfl,rfl⟩ rfl
 ·simp only [go_sem,TmOK,DM,DMs,CM,CMs,forall_eq,exists_eq_left,Mq,HpOK,LowOK]
  first | done | (simp;done) | (simp;exact CM.kf rfl) | exact CM.kf rfl
theorem containsFuncN (cc : List C) (xs : List In) (hl : xs.length ≤ mx) (hg : ∀ x ∈ xs, DC Tryz.prog 95 [.agg (inX x), .c (.eptr cc)] [] (fun r h => r = DB false ∧ h = [])) :
 DC Tryz.prog 83 [.c (.isl 5 (xs.map inX)),.c (.clo 95 [.eptr cc])] [] (fun d h=>d=DB false∧h=[]):=by
 have hif:=indexFuncN cc xs hl hg
 refine dcZ Tryz.func83 ?_
 simp only [go_sem]
 iterate 3 ((try (refine drvZ Tryz.func83 ?_;simp only [go_sem,Int.reduceLE]));((with_reducible and_intros)<;>try exact sd);(try first | refine XK.p hif ok127 ?_ | refine XK.gp hif ok127 ?_))
 exact RetOb.plain (d:=DB false) ⟨rfl,rfl⟩ rfl
theorem codeValidT (c:Cd) (h1:c.vars.length≤mx) (h2:c.arrays.length≤mx) (h3:c.list.length≤mx) (h:codeOK c=true):DC Tryz.prog 35 [.agg (cdC c)] [] (fun r h=>r=DB true∧h=[]):=by
 have hmx:=mx_eq
 have hfn:=fun x hx=>cvFn c h1 h2 h3 x hx
 obtain ⟨vs,ar,l⟩:=c
 simp only [codeOK,Bool.and_eq_true,decide_eq_true_eq,List.all_eq_true] at h
 obtain ⟨⟨⟨⟨hh,hl1⟩,hl2⟩,hall⟩,hend⟩:=h
 simp only at h1 h2 h3 hfn
 have hcf:=containsFuncN (cdC ⟨vs,ar,l⟩) l h3 fun x hx=>hfn x (hall x hx)
 have hde:=declared vs ar h1 h2
 rw [hh] at hde
 have hw:=CtR.within l.length 1 400
 rw [decide_eq_true hl1,decide_eq_true hl2] at hw
 obtain ⟨x,hx⟩:∃ x,l[l.length - 1]? = some x:=⟨l[l.length - 1]'(by omega),by simp⟩
 have hat:atC l (l.length - 1)=x:=by simp [atC,List.getD,hx]
 simp only [endOK,hat,Bool.or_eq_true,beq_iff_eq] at hend
 have hpos:((l.length:Int) - 1).toNat=l.length - 1:=by omega
 obtain ⟨op,xa,xb,xc,xd⟩:=x
 simp only at hend
 unfold cdC at hcf ⊢
 refine dcZ Tryz.func35 ?_
 simp only [go_sem]
 iterate 6 ((try (refine drvZ Tryz.func35 ?_;simp only [go_sem,List.length_map]));((with_reducible and_intros)<;>try exact sd);(try first | refine XK.p hde ok94 ?_ | refine XK.gp hde ok94 ?_ | refine XK.p hw ok70 ?_ | refine XK.gp hw ok70 ?_))
 refine XK.subQ (r := some) (fz := [0]) (tl := [(1, .c (.eptr [isI vs, isI ar, .isl 5 (l.map inX)])), (2, DB false), (17, DB false), (19, .when true (.c (.isl 5 (l.map inX)))), (20, .when true (.c (.clo 95 [.eptr [isI vs, isI ar, .isl 5 (l.map inX)]])))])
  (hl:=[]) ?_ ?_
 ·simp only [go_sem,TmOK,DM,DMs,CM,CMs,forall_eq,exists_eq_left,Mq,HpOK,LowOK]
  simp
 have hget:(l.map inX)[l.length - 1]? = some (inX ⟨op,xa,xb,xc,xd⟩):=by rw [List.getElem?_map,hx];rfl
 rcases hend with rfl | rfl
 ·iterate 9 ((try (refine drvZ Tryz.func35 ?_;simp only [go_sem,List.length_map,hpos,hget,inX]));((with_reducible and_intros)<;>try exact sd);(try first | refine XK.p hcf ok83 ?_ | refine XK.gp hcf ok83 ?_))
  exact RetOb.plain (d:=DB true) ⟨rfl,rfl⟩ rfl
 ·iterate 9 ((try (refine drvZ Tryz.func35 ?_;simp only [go_sem,List.length_map,hpos,hget,inX]));((with_reducible and_intros)<;>try exact sd);(try first | refine XK.p hcf ok83 ?_ | refine XK.gp hcf ok83 ?_))
  exact RetOb.plain (d:=DB true) ⟨rfl,rfl⟩ rfl
open CtL (In Cd codeOK)
abbrev mcB (k:Nat) (rg:List Int) (m:Mm):List (Option (List C)):=[some (rg.map I64),some (m.vals.map I64),some (hdr (k+3) (k+4) m.arrays.length),some (blk0 m.arrays),some (blk1 m.arrays)]
theorem startedI (m:Mm) (hv:m.vals.length≤1000) (ha:m.arrays.length≤2) (h4:∀ a ∈ m.arrays,a.length=4):DC Tryz.prog 106 [.agg m.cells] [] (fun r h=>r = .agg [I64 0,.msl 0 1 0 14,.msl 1 1 0 m.vals.length,.msl 2 1 0 m.arrays.length]∧h=mcB 0 (List.replicate 14 0) m):=by
 have hmx:=mx_eq
 have how:=own m hv ha h4
 unfold memB at how
 obtain ⟨va,arr⟩:=m
 refine dcZ Tryz.func106 ?_
 simp only [go_sem,Mm.cells]
 iterate 2 ((try (refine drvZ Tryz.func106 ?_;simp only [go_sem,Mm.cells]));((with_reducible and_intros)<;>try exact sd))
 refine XK.callG [] how ok53 (fun i' x h=>by simp at h) (hbT ()) (fun d h' ⟨_,e⟩=>by subst e;simp) ?_ (fun _=>⟨by kernel_rfl,_,_,⟨rfl,rfl⟩,by simp⟩)
 rintro _ _ ⟨rfl,rfl⟩ _
 iterate 4 ((try (refine drvZ Tryz.func106 ?_;simp only [go_sem,Mm.cells,renCs_I,renCs_hdr,renCs_b0,renCs_b1]));((with_reducible and_intros)<;>try exact sd))
 obtain ⟨Z,hZ⟩:∃ Z,Z=List.replicate 14 (0:Int):=⟨_,rfl⟩
 have e14:(List.replicate 14 [C.v (.int .i64 0)]).flatten=Z.map I64:=by rw [hZ];rfl
 rw [← hZ]
 refine RetOb.ofQ (fun j=>if j=0 then some 128 else if j=1 then some 256 else if j=2 then some 257 else if j=3 then some 258 else if j=4 then some 259 else none) [] (.agg [I64 0,.msl 0 1 0 14,.msl 1 1 0 va.length,.msl 2 1 0 arr.length]) (mcB 0 Z ⟨va,arr⟩) ?_ ⟨rfl,rfl⟩ (by simp)
 rw [e14]
 simp [mcB,enumL,hOf,DM,CMs,CM,HpOK,LowOK,upd,CMs_I,appUp,upsFrom,rkey,wkey,renCs_I,renCs_hdr,renCs_b0,renCs_b1,CMs_b0,CMs_b1,CMs_hdr]
open CtL (In Cd codeOK)
theorem code_len {c:Cd} (h:codeOK c=true):1≤c.vars.length∧c.vars.length≤12∧c.arrays.length≤2∧1≤c.list.length∧c.list.length≤400:=by
 simp only [codeOK,headsOK,Bool.and_eq_true,decide_eq_true_eq] at h
 obtain ⟨⟨⟨⟨⟨⟨⟨⟨h1,h2⟩,h3⟩,_⟩,_⟩,h4⟩,h5⟩,_⟩,_⟩:=h
 omega
theorem memOK_len {vs ar:List Int} {m:Mm} (h:memOK vs ar m=true):m.vals.length=vs.length∧m.arrays.length=ar.length∧∀ a ∈ m.arrays,a.length=4:=by
 simp only [memOK,Bool.and_eq_true,decide_eq_true_eq,List.all_eq_true] at h
 refine ⟨by omega,by omega,fun a ha=>?_⟩
 have:=h.2 a ha
 simp only [arrOK,Bool.and_eq_true,decide_eq_true_eq,beq_iff_eq] at this
 omega
def stmR (c:Cd) (m:Mm) (r:D) (h:List (Option (List C))):Prop :=
 if memOK c.vars c.arrays m=true then r = .tup [.agg [I64 0,.msl 0 1 0 14,.msl 1 1 0 m.vals.length,.msl 2 1 0 m.arrays.length],DB true]∧h=mcB 0 (List.replicate 14 0) m
 else r = .tup [.agg [I64 0,.v (.slice none 0 0),.v (.slice none 0 0),.v (.slice none 0 0)],DB false]∧h=[]
theorem startI (c:Cd) (m:Mm) (h:codeOK c=true):DC Tryz.prog 55 [.agg (cdC c),.agg m.cells] [] (stmR c m):=by
 have hmx:=mx_eq
 have hcl:=code_len h
 have hcv:=codeValidT c (by omega) (by omega) (by omega) h
 have him:=isMemory c.vars c.arrays m (by omega) (by omega)
 cases hm:memOK c.vars c.arrays m with
 | true =>
  have hml:=memOK_len hm
  have hst:=startedI m (by omega) (by omega) hml.2.2
  rw [show stmR c m=fun r h=>r = .tup [.agg [I64 0,.msl 0 1 0 14,.msl 1 1 0 m.vals.length,.msl 2 1 0 m.arrays.length],DB true]∧h=mcB 0 (List.replicate 14 0) m by funext r h;simp [stmR,hm]]
  rw [hm] at him
  generalize hZ:List.replicate 14 (0:Int)=Z at *
  generalize hR:(fun (r:D) (h:List (Option (List C)))=>r = .tup [.agg [I64 0,.msl 0 1 0 14,.msl 1 1 0 m.vals.length,.msl 2 1 0 m.arrays.length],DB true]∧h=mcB 0 Z m)=R
  obtain ⟨vs,ar,l⟩:=c
  obtain ⟨va,arr⟩:=m
  simp only [cdC,ints] at hcv him ⊢
  refine dcZ Tryz.func55 ?_
  simp only [go_sem,Mm.cells]
  iterate 5 ((try (refine drvZ Tryz.func55 ?_;simp only [go_sem,Mm.cells]));((with_reducible and_intros)<;>try exact sd);(try first | refine XK.p hcv ok35 ?_ | refine XK.gp hcv ok35 ?_ | refine XK.p him ok101 ?_ | refine XK.gp him ok101 ?_))
  refine XK.callG [] hst ok106 (fun i' x h=>by simp at h) (hbT ()) (fun d h' ⟨_,e⟩=>by subst e;simp) ?_
  rintro _ _ ⟨rfl,rfl⟩ _
  iterate 4 ((try (refine drvZ Tryz.func55 ?_;simp only [go_sem,Mm.cells,renCs_I,renCs_hdr,renCs_b0,renCs_b1]));((with_reducible and_intros)<;>try exact sd))
  refine RetOb.ofQ (fun j=>if j=0 then some 1088 else if j=1 then some 1089 else if j=2 then some 1090 else if j=3 then some 1091 else if j=4 then some 1092 else none) [] (.tup [.agg [I64 0,.msl 0 1 0 14,.msl 1 1 0 va.length,.msl 2 1 0 arr.length],DB true]) (mcB 0 Z ⟨va,arr⟩) ?_ (by rw [← hR];exact ⟨rfl,rfl⟩) (by simp)
  simp [mcB,enumL,hOf,DM,DMs,CMs,CM,HpOK,LowOK,upd,CMs_I,appUp,upsFrom,rkey,wkey,renCs_I,renCs_hdr,renCs_b0,renCs_b1,CMs_b0,CMs_b1,CMs_hdr]
 | false =>
  rw [show stmR c m=fun r h=>r = .tup [.agg [I64 0,.v (.slice none 0 0),.v (.slice none 0 0),.v (.slice none 0 0)],DB false]∧h=[] by funext r h;simp [stmR,hm]]
  rw [hm] at him
  obtain ⟨vs,ar,l⟩:=c
  obtain ⟨va,arr⟩:=m
  simp only [cdC,ints] at hcv him ⊢
  refine dcZ Tryz.func55 ?_
  simp only [go_sem,Mm.cells]
  iterate 6 ((try (refine drvZ Tryz.func55 ?_;simp only [go_sem,Mm.cells]));((with_reducible and_intros)<;>try exact sd);(try first | refine XK.p hcv ok35 ?_ | refine XK.gp hcv ok35 ?_ | refine XK.p him ok101 ?_ | refine XK.gp him ok101 ?_))
  refine RetOb.ofQ (fun _=>none) [] (.tup [.agg [I64 0,.v (.slice none 0 0),.v (.slice none 0 0),.v (.slice none 0 0)],DB false]) [] ?_ ⟨rfl,rfl⟩ (by simp)
  simp [enumL,DM,DMs,CM,CMs,HpOK,LowOK]
end Go.Proofs.YtbknljofedfpjaaGreat.CtD
