/- Contracts of functions of the program, one behind the other, as plain data: what each call returns and which blocks it leaves. -/
import Derived.Test.YtoakidkcppinpaaGreatDFacts
import Derived.Test.YtoakidkcppinpaaGreatDAi
import Derived.Test.YtoakidkcppinpaaGreatDAl
import Derived.Test.YtoakidkcppinpaaGreatDAt
import Derived.Test.YtoakidkcppinpaaGreatDAu
import Derived.Test.YtoakidkcppinpaaGreatDAw
import Derived.Test.YtoakidkcppinpaaGreatDAx
import Derived.Test.YtoakidkcppinpaaGreatDAn
import Derived.Test.YtoakidkcppinpaaGreatDAp
import Derived.Test.YtoakidkcppinpaaGreatDAq
import Derived.Test.YtoakidkcppinpaaGreatDAs
set_option linter.unusedVariables false
set_option linter.unusedSimpArgs false
set_option linter.unusedSectionVars false
set_option maxHeartbeats 16000000
set_option maxRecDepth 100000
namespace Go.Proofs.YtoakidkcppinpaaGreat.CtD
open Go Go.CT CtF CtR
variable [Yn]
open CtL (In Cd kindsOf topOf fOK inOK endOK codeOK)
def ltr (k:Nat):UInt8:=if k=0 then 45 else if k=1 then 114 else if k=2 then 110 else if k=3 then 118 else if k=4 then 97 else if k=5 then 111 else 105
def shp (op:Int):ByteArray:=⟨#[ltr ((kindsOf op).getD 0 0),ltr ((kindsOf op).getD 1 0),ltr ((kindsOf op).getD 2 0),ltr ((kindsOf op).getD 3 0)]⟩
theorem shapeI (op:Int) (h:1≤op∧op≤13):DC Tryz.prog 86 [DI .i64 op] [] (fun r h=>r=DS (shp op)∧h=[]):=by
 have hmx:=mx_eq
 have hw:=CtR.within op 1 13
 have key:op=1∨op=2∨op=3∨op=4∨op=5∨op=6∨op=7∨op=8∨op=9∨op=10∨op=11∨op=12∨op=13:=by omega
 rcases key with rfl | rfl | rfl | rfl | rfl | rfl | rfl | rfl | rfl | rfl | rfl | rfl | rfl
 all_goals
  refine dcZ Tryz.func86 ?_
  simp only [go_sem]
  iterate 4 ((try (refine drvZ Tryz.func86 ?_;simp only [go_sem,Int.reduceLE,Int.reduceSub,Int.reduceToNat]));((with_reducible and_intros)<;>try exact sd);(try first | refine XK.p hw ok60 ?_ | refine XK.gp hw ok60 ?_))
  exact RetOb.plain (d:=DS _) ⟨rfl,rfl⟩ rfl
theorem fieldOkT (c : Cd) (h1 : c.vars.length ≤ mx) (h2 : c.arrays.length ≤ mx) (h3 : c.list.length ≤ mx) (k : Nat) (hk : k ≤ 6) (n : Int) (h : fOK c.vars.length c.arrays.length c.list.length k n = true) :
 DC Tryz.prog 88 [.agg (cdC c),.c (.v (.int .u8 (ltr k).toNat)),DI .i64 n] [] (fun r h=>r=DB true∧h=[]):=by
 have hmx:=mx_eq
 have hw:=fun hi=>CtR.within n 0 hi
 have hw4:=CtR.within n 4 10
 obtain ⟨vs,ar,ls⟩:=c
 simp only at h1 h2 h3 h
 simp only [fOK,topOf,Bool.and_eq_true,decide_eq_true_eq] at h
 have key:k=0∨k=1∨k=2∨k=3∨k=4∨k=5∨k=6:=by omega
 unfold cdC
 rcases key with rfl | rfl | rfl | rfl | rfl | rfl | rfl
 ·rw [show (((ltr 0).toNat:Nat):Int)=45 from rfl]
  obtain rfl:n=0:=by simp at h;omega
  refine dcZ Tryz.func88 ?_
  simp only [go_sem]
  iterate 9 ((try (refine drvZ Tryz.func88 ?_;simp only [go_sem]));((with_reducible and_intros)<;>try exact sd))
  exact RetOb.plain (d:=DB true) ⟨rfl,rfl⟩ rfl
 ·rw [show (((ltr 1).toNat:Nat):Int)=114 from rfl]
  have g1:decide (0≤n)=true:=by simp at h ⊢;omega
  have g2:decide (n≤13)=true:=by simp at h ⊢;omega
  have hw:=hw (13)
  rw [g1,g2] at hw
  refine dcZ Tryz.func88 ?_
  simp only [go_sem]
  iterate 10 ((try (refine drvZ Tryz.func88 ?_;simp only [go_sem,Int.reduceLE,List.length_map]));((with_reducible and_intros)<;>try exact sd);(try first | refine XK.p hw ok60 ?_ | refine XK.gp hw ok60 ?_))
  exact RetOb.plain (d:=DB true) ⟨rfl,rfl⟩ rfl
 ·rw [show (((ltr 2).toNat:Nat):Int)=110 from rfl]
  have g1:decide (0≤n)=true:=by simp at h ⊢;omega
  have g2:decide (n≤255)=true:=by simp at h ⊢;omega
  have hw:=hw (255)
  rw [g1,g2] at hw
  refine dcZ Tryz.func88 ?_
  simp only [go_sem]
  iterate 10 ((try (refine drvZ Tryz.func88 ?_;simp only [go_sem,Int.reduceLE,List.length_map]));((with_reducible and_intros)<;>try exact sd);(try first | refine XK.p hw ok60 ?_ | refine XK.gp hw ok60 ?_))
  exact RetOb.plain (d:=DB true) ⟨rfl,rfl⟩ rfl
 ·rw [show (((ltr 3).toNat:Nat):Int)=118 from rfl]
  have g1:decide (0≤n)=true:=by simp at h ⊢;omega
  have g2:decide (n≤(vs.length:Int) - 1)=true:=by simp at h ⊢;omega
  have hw:=hw ((vs.length:Int) - 1)
  rw [g1,g2] at hw
  refine dcZ Tryz.func88 ?_
  simp only [go_sem]
  iterate 10 ((try (refine drvZ Tryz.func88 ?_;simp only [go_sem,Int.reduceLE,List.length_map]));((with_reducible and_intros)<;>try exact sd);(try first | refine XK.p hw ok60 ?_ | refine XK.gp hw ok60 ?_))
  exact RetOb.plain (d:=DB true) ⟨rfl,rfl⟩ rfl
 ·rw [show (((ltr 4).toNat:Nat):Int)=97 from rfl]
  have g1:decide (0≤n)=true:=by simp at h ⊢;omega
  have g2:decide (n≤(ar.length:Int) - 1)=true:=by simp at h ⊢;omega
  have hw:=hw ((ar.length:Int) - 1)
  rw [g1,g2] at hw
  refine dcZ Tryz.func88 ?_
  simp only [go_sem]
  iterate 10 ((try (refine drvZ Tryz.func88 ?_;simp only [go_sem,Int.reduceLE,List.length_map]));((with_reducible and_intros)<;>try exact sd);(try first | refine XK.p hw ok60 ?_ | refine XK.gp hw ok60 ?_))
  exact RetOb.plain (d:=DB true) ⟨rfl,rfl⟩ rfl
 ·rw [show (((ltr 5).toNat:Nat):Int)=111 from rfl]
  have g1:decide (4≤n)=true:=by simp at h ⊢;omega
  have g2:decide (n≤10)=true:=by simp at h ⊢;omega
  rw [g1,g2] at hw4
  refine dcZ Tryz.func88 ?_
  simp only [go_sem]
  iterate 10 ((try (refine drvZ Tryz.func88 ?_;simp only [go_sem,Int.reduceLE,List.length_map]));((with_reducible and_intros)<;>try exact sd);(try first | refine XK.p hw4 ok60 ?_ | refine XK.gp hw4 ok60 ?_))
  exact RetOb.plain (d:=DB true) ⟨rfl,rfl⟩ rfl
 ·rw [show (((ltr 6).toNat:Nat):Int)=105 from rfl]
  have g1:decide (0≤n)=true:=by simp at h ⊢;omega
  have g2:decide (n≤(ls.length:Int) - 1)=true:=by simp at h ⊢;omega
  have hw:=hw ((ls.length:Int) - 1)
  rw [g1,g2] at hw
  refine dcZ Tryz.func88 ?_
  simp only [go_sem]
  iterate 10 ((try (refine drvZ Tryz.func88 ?_;simp only [go_sem,Int.reduceLE,List.length_map]));((with_reducible and_intros)<;>try exact sd);(try first | refine XK.p hw ok60 ?_ | refine XK.gp hw ok60 ?_))
  exact RetOb.plain (d:=DB true) ⟨rfl,rfl⟩ rfl
theorem fieldsI (x:In):DC Tryz.prog 87 [.agg (inX x)] [] (fun r h=>r = .c (isI [x.a,x.b,x.c,x.d])∧h=[]):=by
 have hmx:=mx_eq
 obtain ⟨op,a,b,c,d⟩:=x
 unfold inX
 refine dcZ Tryz.func87 ?_
 simp only [go_sem]
 iterate 3 ((try (refine drvZ Tryz.func87 ?_;simp only [go_sem]));((with_reducible and_intros)<;>try exact sd))
 refine RetOb.ofQ (fun _=>none) [640] (.c (isI [a,b,c,d])) [] ?_ ⟨rfl,rfl⟩ (by simp)
 simp [enumL,hOf,DM,CM,CMs,HpOK,LowOK,upd,kf,isI]
theorem kinds_le (op:Int) (i:Nat):(kindsOf op).getD i 0≤6:=by
 have:∀ l:List Nat,(∀ x ∈ l,x≤6)→l.getD i 0≤6:=fun l h=>by
  rw [List.getD_eq_getElem?_getD]
  cases hx:l[i]? with
  | none=>simp
  | some x=>simpa using h x (List.mem_of_getElem? hx)
 apply this
 unfold kindsOf
 repeat' split
 all_goals simp
theorem shp_at (op:Int) (i:Nat) (h:i<4):(shp op).data.toList.getD i 0=ltr ((kindsOf op).getD i 0):=by
 have:i=0∨i=1∨i=2∨i=3:=by omega
 rcases this with rfl | rfl | rfl | rfl<;>rfl
theorem toList_nil:ByteArray.toList { data:=#[] }=[]:=by
 unfold ByteArray.toList
 unfold ByteArray.toList.loop
 rfl
theorem loop_len (bs : ByteArray) : ∀ (n i : Nat) (r : List UInt8), bs.size - i = n → (ByteArray.toList.loop bs i r).length = r.length + n
 | 0,i,r,h=>by
  unfold ByteArray.toList.loop
  rw [if_neg (by omega)];simp
 | n+1,i,r,h=>by
  unfold ByteArray.toList.loop
  rw [if_pos (by omega),loop_len bs n (i+1) _ (by omega)]
  simp only [List.length_cons];omega
theorem shp_ne (op:Int) (h:1≤op∧op≤13):((shp op).toList == (ByteArray.toList { data:=#[] }))=false:=by
 rw [toList_nil,beq_eq_false_iff_ne]
 intro he
 have:=loop_len (shp op) 4 0 [] rfl
 unfold ByteArray.toList at he
 rw [he] at this
 simp at this
theorem instrOkT (c : Cd) (h1 : c.vars.length ≤ mx) (h2 : c.arrays.length ≤ mx) (h3 : c.list.length ≤ mx) (x : In) (h : inOK c.vars.length c.arrays.length c.list.length x = true) :
 DC Tryz.prog 62 [.agg (cdC c),.agg (inX x)] [] (fun r h=>r=DB true∧h=[]):=by
 have hmx:=mx_eq
 have hf:=fun k hk n hn=>fieldOkT c h1 h2 h3 k hk n hn
 have hfi:=fieldsI x
 obtain ⟨op,a,b,c',d⟩:=x
 simp only [inOK,Bool.and_eq_true,decide_eq_true_eq] at h
 obtain ⟨⟨⟨⟨⟨o1,o2⟩,q0⟩,q1⟩,q2⟩,q3⟩:=h
 have hsh:=shapeI op ⟨o1,o2⟩
 have hq:∀ i:Nat,i<4→fOK c.vars.length c.arrays.length c.list.length ((kindsOf op).getD i 0) ([a,b,c',d].getD i 0)=true:=fun i hi=>by
  have:i=0∨i=1∨i=2∨i=3:=by omega
  rcases this with rfl | rfl | rfl | rfl<;>assumption
 have hsz:(shp op).size=4:=rfl
 have hse:((shp op).toList == (ByteArray.toList { data:=#[] }))=false:=shp_ne op ⟨o1,o2⟩
 unfold cdC at hf ⊢
 unfold inX at hfi
 unfold inX
 refine dcZ Tryz.func62 ?_
 simp only [go_sem]
 iterate 5 ((try (refine drvZ Tryz.func62 ?_;simp only [go_sem]));((with_reducible and_intros)<;>try exact sd);(try first | refine XK.p hsh ok86 ?_ | refine XK.gp hsh ok86 ?_ | refine XK.p hfi ok87 ?_ | refine XK.gp hfi ok87 ?_))
 refine Go.loopQ (fun i : Nat => [(2, .c (.ptr 0 0)), (5, DS (shp op)), (12, .c (.isl 1 [[I64 a], [I64 b], [I64 c'], [I64 d]])), (13, DI .i64 4), (14, DI .i64 i)]) (fun _ => [(0, some [isI c.vars, isI c.arrays, .isl 5 (c.list.map inX)])])
  4096 (fun i=>i≤4) (fun i=>4 - i) ?_ 0 some [] _ (by omega) ?_
 ·intro i hi again
  rcases Nat.lt_or_ge i 4 with hlt | hge
  ·have hx:[[I64 a],[I64 b],[I64 c'],[I64 d]][i]? = some [I64 ([a,b,c',d].getD i 0)]:=by
    have:i=0∨i=1∨i=2∨i=3:=by omega
    rcases this with rfl | rfl | rfl | rfl<;>rfl
   have hc:=hf _ (kinds_le op i) _ (hq i hlt)
   have hat:=shp_at op i hlt
   have hlt':(i:Int)<4:=by omega
   generalize [a,b,c',d].getD i 0=n at *
   generalize (kindsOf op).getD i 0=k at *
   generalize [[I64 a],[I64 b],[I64 c'],[I64 d]]=fl at *
   generalize shp op=sp at *
   refine drvL Tryz.func62 ?_
   simp only [go_sem,hlt']
   iterate 5 ((try (refine drvZ Tryz.func62 ?_;simp only [go_sem,hx,hlt',hat,hsz,hse]));((with_reducible and_intros)<;>try exact sd);(try first | refine XK.p hc ok88 ?_ | refine XK.gp hc ok88 ?_))
   refine again (i+1) some [] _ (by omega) (by omega) ?_
   simp only [go_sem,TmOK,DM,DMs,CM,CMs,forall_eq,exists_eq_left,Mq,HpOK,LowOK]
   try simp
  ·obtain rfl:i=4:=by omega
   have h44:(((4:Nat):Int)<4)=False:=eq_false (by decide)
   refine drvL Tryz.func62 ?_
   simp only [go_sem,h44]
   iterate 3 ((try (refine drvZ Tryz.func62 ?_;simp only [go_sem,h44]));((with_reducible and_intros)<;>try exact sd))
   exact RetOb.plain (d:=DB true) ⟨rfl,rfl⟩ rfl
 ·simp only [go_sem,TmOK,DM,DMs,CM,CMs,forall_eq,exists_eq_left,Mq,HpOK,LowOK]
  simp
  exact fun a _=>rfl
open CtL (In Cd kindsOf topOf fOK inOK endOK codeOK atC halt)
theorem cvFn (c : Cd) (h1 : c.vars.length ≤ mx) (h2 : c.arrays.length ≤ mx) (h3 : c.list.length ≤ mx) (x : In) (h : inOK c.vars.length c.arrays.length c.list.length x = true) :
 DC Tryz.prog 61 [.agg (inX x),.c (.eptr (cdC c))] [] (fun r h=>r=DB false∧h=[]):=by
 have hio:=instrOkT c h1 h2 h3 x h
 unfold cdC at hio ⊢
 obtain ⟨op,a,b,c',d⟩:=x
 unfold inX at hio ⊢
 refine dcZ Tryz.func61 ?_
 simp only [go_sem]
 iterate 4 ((try (refine drvZ Tryz.func61 ?_;simp only [go_sem]));((with_reducible and_intros)<;>try exact sd);(try first | refine XK.p hio ok62 ?_ | refine XK.gp hio ok62 ?_))
 exact RetOb.plain (d:=DB false) ⟨rfl,rfl⟩ rfl
theorem indexFuncN (cc : List C) (xs : List In) (hl : xs.length ≤ mx) (hg : ∀ x ∈ xs, DC Tryz.prog 61 [.agg (inX x), .c (.eptr cc)] [] (fun r h => r = DB false ∧ h = [])) :
 DC Tryz.prog 66 [.c (.isl 5 (xs.map inX)),.c (.clo 61 [.eptr cc])] [] (fun d h=>d=DI .i64 (-1)∧h=[]):=by
 have hmx:=mx_eq
 refine dcZ Tryz.func66 ?_
 simp only [go_sem]
 ((try (refine drvZ Tryz.func66 ?_;simp only [go_sem]));((with_reducible and_intros)<;>try exact sd))
 refine Go.loopQ (fun i:Nat=>[(0,.c (.isl 5 (xs.map inX))),(1,.c (.clo 61 [.eptr cc])),(7,DI .i64 xs.length),(8,DI .i64 i)]) (fun _=>[]) 1024 (fun i=>i≤xs.length) (fun i=>xs.length - i) ?_ 0 some [] _ (Nat.zero_le _) ?_
 ·intro i hi again
  rcases Nat.lt_or_ge i xs.length with hlt | hge
  ·obtain ⟨⟨op,a,b,c,d⟩,hx⟩:∃ x,xs[i]? = some x:=⟨xs[i],by simp [hlt]⟩
   have hgx:=hg _ (List.mem_of_getElem? hx)
   simp only [inX] at hgx
   refine drvL Tryz.func66 ?_
   simp only [go_sem,hx,hlt,inX]
   iterate 5 ((try (refine drvZ Tryz.func66 ?_;simp only [go_sem,hx,hlt,inX]));((with_reducible and_intros)<;>try exact sd);(try first | refine XK.p hgx ok61 ?_ | refine XK.gp hgx ok61 ?_))
   refine again (i+1) some [] _ hlt (by omega) ?_
   simp only [go_sem,TmOK,DM,DMs,CM,CMs,forall_eq,exists_eq_left,Mq,HpOK,LowOK]
   first | done | (simp;done) | (simp;exact CM.kf rfl) | exact CM.kf rfl
  ·have hn:¬ i<xs.length:=by omega
   refine drvL Tryz.func66 ?_
   simp only [go_sem,hn]
   iterate 3 ((try (refine drvZ Tryz.func66 ?_;simp only [go_sem,hn]));((with_reducible and_intros)<;>try exact sd))
   exact RetOb.plain (d:=DI .i64 (-1)) ⟨rfl,rfl⟩ rfl
 ·simp only [go_sem,TmOK,DM,DMs,CM,CMs,forall_eq,exists_eq_left,Mq,HpOK,LowOK]
  first | done | (simp;done) | (simp;exact CM.kf rfl) | exact CM.kf rfl
theorem containsFuncN (cc : List C) (xs : List In) (hl : xs.length ≤ mx) (hg : ∀ x ∈ xs, DC Tryz.prog 61 [.agg (inX x), .c (.eptr cc)] [] (fun r h => r = DB false ∧ h = [])) :
 DC Tryz.prog 38 [.c (.isl 5 (xs.map inX)),.c (.clo 61 [.eptr cc])] [] (fun d h=>d=DB false∧h=[]):=by
 have hif:=indexFuncN cc xs hl hg
 refine dcZ Tryz.func38 ?_
 simp only [go_sem]
 iterate 3 ((try (refine drvZ Tryz.func38 ?_;simp only [go_sem,Int.reduceLE]));((with_reducible and_intros)<;>try exact sd);(try first | refine XK.p hif ok66 ?_ | refine XK.gp hif ok66 ?_))
 exact RetOb.plain (d:=DB false) ⟨rfl,rfl⟩ rfl
theorem codeValidT (c:Cd) (h1:c.vars.length≤mx) (h2:c.arrays.length≤mx) (h3:c.list.length≤mx) (h:codeOK c=true):DC Tryz.prog 32 [.agg (cdC c)] [] (fun r h=>r=DB true∧h=[]):=by
 have hmx:=mx_eq
 have hfn:=fun x hx=>cvFn c h1 h2 h3 x hx
 obtain ⟨vs,ar,l⟩:=c
 simp only [codeOK,Bool.and_eq_true,decide_eq_true_eq,List.all_eq_true] at h
 obtain ⟨⟨⟨⟨hh,hl1⟩,hl2⟩,hall⟩,hend⟩:=h
 simp only at h1 h2 h3 hfn
 have hcf:=containsFuncN (cdC ⟨vs,ar,l⟩) l h3 fun x hx=>hfn x (hall x hx)
 have hde:=declared vs ar h1 h2
 rw [hh] at hde
 have hw:=CtR.within l.length 1 400
 rw [decide_eq_true hl1,decide_eq_true hl2] at hw
 obtain ⟨x,hx⟩:∃ x,l[l.length - 1]? = some x:=⟨l[l.length - 1]'(by omega),by simp⟩
 have hat:atC l (l.length - 1)=x:=by simp [atC,List.getD,hx]
 simp only [endOK,hat,Bool.or_eq_true,beq_iff_eq] at hend
 have hpos:((l.length:Int) - 1).toNat=l.length - 1:=by omega
 obtain ⟨op,xa,xb,xc,xd⟩:=x
 simp only at hend
 unfold cdC at hcf ⊢
 refine dcZ Tryz.func32 ?_
 simp only [go_sem]
 iterate 6 ((try (refine drvZ Tryz.func32 ?_;simp only [go_sem,List.length_map]));((with_reducible and_intros)<;>try exact sd);(try first | refine XK.p hde ok59 ?_ | refine XK.gp hde ok59 ?_ | refine XK.p hw ok60 ?_ | refine XK.gp hw ok60 ?_))
 refine XK.subQ (r := some) (fz := [0]) (tl := [(1, .c (.eptr [isI vs, isI ar, .isl 5 (l.map inX)])), (2, DB false), (17, DB false), (19, .when true (.c (.isl 5 (l.map inX)))), (20, .when true (.c (.clo 61 [.eptr [isI vs, isI ar, .isl 5 (l.map inX)]])))])
  (hl:=[]) ?_ ?_
 ·simp only [go_sem,TmOK,DM,DMs,CM,CMs,forall_eq,exists_eq_left,Mq,HpOK,LowOK]
  simp
 have hget:(l.map inX)[l.length - 1]? = some (inX ⟨op,xa,xb,xc,xd⟩):=by rw [List.getElem?_map,hx];rfl
 rcases hend with rfl | rfl
 ·iterate 9 ((try (refine drvZ Tryz.func32 ?_;simp only [go_sem,List.length_map,hpos,hget,inX]));((with_reducible and_intros)<;>try exact sd);(try first | refine XK.p hcf ok38 ?_ | refine XK.gp hcf ok38 ?_))
  exact RetOb.plain (d:=DB true) ⟨rfl,rfl⟩ rfl
 ·iterate 9 ((try (refine drvZ Tryz.func32 ?_;simp only [go_sem,List.length_map,hpos,hget,inX]));((with_reducible and_intros)<;>try exact sd);(try first | refine XK.p hcf ok38 ?_ | refine XK.gp hcf ok38 ?_))
  exact RetOb.plain (d:=DB true) ⟨rfl,rfl⟩ rfl
open CtL (In Cd codeOK)
abbrev mcB (k:Nat) (rg:List Int) (m:Mm):List (Option (List C)):=[some (rg.map I64),some (m.vals.map I64),some (hdr (k+3) (k+4) m.arrays.length),some (blk0 m.arrays),some (blk1 m.arrays)]
theorem startedI (m:Mm) (hv:m.vals.length≤1000) (ha:m.arrays.length≤2) (h4:∀ a ∈ m.arrays,a.length=4):DC Tryz.prog 83 [.agg m.cells] [] (fun r h=>r = .agg [I64 0,.msl 0 1 0 14,.msl 1 1 0 m.vals.length,.msl 2 1 0 m.arrays.length]∧h=mcB 0 (List.replicate 14 0) m):=by
 have hmx:=mx_eq
 have how:=own m hv ha h4
 unfold memB at how
 obtain ⟨va,arr⟩:=m
 refine dcZ Tryz.func83 ?_
 simp only [go_sem,Mm.cells]
 iterate 2 ((try (refine drvZ Tryz.func83 ?_;simp only [go_sem,Mm.cells]));((with_reducible and_intros)<;>try exact sd))
 refine XK.callG [] how ok47 (fun i' x h=>by simp at h) (hbT ()) (fun d h' ⟨_,e⟩=>by subst e;simp) ?_ (fun _=>⟨by kernel_rfl,_,_,⟨rfl,rfl⟩,by simp⟩)
 rintro _ _ ⟨rfl,rfl⟩ _
 iterate 4 ((try (refine drvZ Tryz.func83 ?_;simp only [go_sem,Mm.cells,renCs_I,renCs_hdr,renCs_b0,renCs_b1]));((with_reducible and_intros)<;>try exact sd))
 obtain ⟨Z,hZ⟩:∃ Z,Z=List.replicate 14 (0:Int):=⟨_,rfl⟩
 have e14:(List.replicate 14 [C.v (.int .i64 0)]).flatten=Z.map I64:=by rw [hZ];rfl
 rw [← hZ]
 refine RetOb.ofQ (fun j=>if j=0 then some 128 else if j=1 then some 256 else if j=2 then some 257 else if j=3 then some 258 else if j=4 then some 259 else none) [] (.agg [I64 0,.msl 0 1 0 14,.msl 1 1 0 va.length,.msl 2 1 0 arr.length]) (mcB 0 Z ⟨va,arr⟩) ?_ ⟨rfl,rfl⟩ (by simp)
 rw [e14]
 simp [mcB,enumL,hOf,DM,CMs,CM,HpOK,LowOK,upd,CMs_I,appUp,upsFrom,rkey,wkey,renCs_I,renCs_hdr,renCs_b0,renCs_b1,CMs_b0,CMs_b1,CMs_hdr]
open CtL (In Cd codeOK)
theorem code_len {c:Cd} (h:codeOK c=true):1≤c.vars.length∧c.vars.length≤12∧c.arrays.length≤2∧1≤c.list.length∧c.list.length≤400:=by
 simp only [codeOK,headsOK,Bool.and_eq_true,decide_eq_true_eq] at h
 obtain ⟨⟨⟨⟨⟨⟨⟨⟨h1,h2⟩,h3⟩,_⟩,_⟩,h4⟩,h5⟩,_⟩,_⟩:=h
 omega
theorem memOK_len {vs ar:List Int} {m:Mm} (h:memOK vs ar m=true):m.vals.length=vs.length∧m.arrays.length=ar.length∧∀ a ∈ m.arrays,a.length=4:=by
 simp only [memOK,Bool.and_eq_true,decide_eq_true_eq,List.all_eq_true] at h
 refine ⟨by omega,by omega,fun a ha=>?_⟩
 have:=h.2 a ha
 simp only [arrOK,Bool.and_eq_true,decide_eq_true_eq,beq_iff_eq] at this
 omega
def stmR (c:Cd) (m:Mm) (r:D) (h:List (Option (List C))):Prop :=
 if memOK c.vars c.arrays m=true then r = .tup [.agg [I64 0,.msl 0 1 0 14,.msl 1 1 0 m.vals.length,.msl 2 1 0 m.arrays.length],DB true]∧h=mcB 0 (List.replicate 14 0) m
 else r = .tup [.agg [I64 0,.v (.slice none 0 0),.v (.slice none 0 0),.v (.slice none 0 0)],DB false]∧h=[]
theorem startI (c:Cd) (m:Mm) (h:codeOK c=true):DC Tryz.prog 56 [.agg (cdC c),.agg m.cells] [] (stmR c m):=by
 have hmx:=mx_eq
 have hcl:=code_len h
 have hcv:=codeValidT c (by omega) (by omega) (by omega) h
 have him:=isMemory c.vars c.arrays m (by omega) (by omega)
 cases hm:memOK c.vars c.arrays m with
 | true =>
  have hml:=memOK_len hm
  have hst:=startedI m (by omega) (by omega) hml.2.2
  rw [show stmR c m=fun r h=>r = .tup [.agg [I64 0,.msl 0 1 0 14,.msl 1 1 0 m.vals.length,.msl 2 1 0 m.arrays.length],DB true]∧h=mcB 0 (List.replicate 14 0) m by funext r h;simp [stmR,hm]]
  rw [hm] at him
  generalize hZ:List.replicate 14 (0:Int)=Z at *
  generalize hR:(fun (r:D) (h:List (Option (List C)))=>r = .tup [.agg [I64 0,.msl 0 1 0 14,.msl 1 1 0 m.vals.length,.msl 2 1 0 m.arrays.length],DB true]∧h=mcB 0 Z m)=R
  obtain ⟨vs,ar,l⟩:=c
  obtain ⟨va,arr⟩:=m
  simp only [cdC,ints] at hcv him ⊢
  refine dcZ Tryz.func56 ?_
  simp only [go_sem,Mm.cells]
  iterate 5 ((try (refine drvZ Tryz.func56 ?_;simp only [go_sem,Mm.cells]));((with_reducible and_intros)<;>try exact sd);(try first | refine XK.p hcv ok32 ?_ | refine XK.gp hcv ok32 ?_ | refine XK.p him ok55 ?_ | refine XK.gp him ok55 ?_))
  refine XK.callG [] hst ok83 (fun i' x h=>by simp at h) (hbT ()) (fun d h' ⟨_,e⟩=>by subst e;simp) ?_
  rintro _ _ ⟨rfl,rfl⟩ _
  iterate 4 ((try (refine drvZ Tryz.func56 ?_;simp only [go_sem,Mm.cells,renCs_I,renCs_hdr,renCs_b0,renCs_b1]));((with_reducible and_intros)<;>try exact sd))
  refine RetOb.ofQ (fun j=>if j=0 then some 1088 else if j=1 then some 1089 else if j=2 then some 1090 else if j=3 then some 1091 else if j=4 then some 1092 else none) [] (.tup [.agg [I64 0,.msl 0 1 0 14,.msl 1 1 0 va.length,.msl 2 1 0 arr.length],DB true]) (mcB 0 Z ⟨va,arr⟩) ?_ (by rw [← hR];exact ⟨rfl,rfl⟩) (by simp)
  simp [mcB,enumL,hOf,DM,DMs,CMs,CM,HpOK,LowOK,upd,CMs_I,appUp,upsFrom,rkey,wkey,renCs_I,renCs_hdr,renCs_b0,renCs_b1,CMs_b0,CMs_b1,CMs_hdr]
 | false =>
  rw [show stmR c m=fun r h=>r = .tup [.agg [I64 0,.v (.slice none 0 0),.v (.slice none 0 0),.v (.slice none 0 0)],DB false]∧h=[] by funext r h;simp [stmR,hm]]
  rw [hm] at him
  obtain ⟨vs,ar,l⟩:=c
  obtain ⟨va,arr⟩:=m
  simp only [cdC,ints] at hcv him ⊢
  refine dcZ Tryz.func56 ?_
  simp only [go_sem,Mm.cells]
  iterate 6 ((try (refine drvZ Tryz.func56 ?_;simp only [go_sem,Mm.cells]));((with_reducible and_intros)<;>try exact sd);(try first | refine XK.p hcv ok32 ?_ | refine XK.gp hcv ok32 ?_ | refine XK.p him ok55 ?_ | refine XK.gp him ok55 ?_))
  refine RetOb.ofQ (fun _=>none) [] (.tup [.agg [I64 0,.v (.slice none 0 0),.v (.slice none 0 0),.v (.slice none 0 0)],DB false]) [] ?_ ⟨rfl,rfl⟩ (by simp)
  simp [enumL,DM,DMs,CM,CMs,HpOK,LowOK]
open CtL (In Cd Mc stepM kindsOf topOf fOK inOK endOK codeOK)
def stB (s:Mc):List (Option (List C)):=[some [I64 s.pc,.msl 1 1 0 14,.msl 2 1 0 s.mem.vals.length,.msl 3 1 0 s.mem.arrays.length],some (s.regs.map I64),some (s.mem.vals.map I64),some (hdr 4 5 s.mem.arrays.length),some (blk0 s.mem.arrays),some (blk1 s.mem.arrays)]
def hdC (c:Cd):Pg:=⟨c.vars,c.arrays,[]⟩
structure MOK (c : Cd) (s : Mc) : Prop where
 pc:s.pc<c.list.length
 len:s.regs.length=14
 reg:∀ r ∈ s.regs,0≤r∧r≤255
 mem:MemFits (hdC c) s.mem
def stepR (x:In) (s:Mc) (r:D) (h:List (Option (List C))):Prop:=r = .c (.msl 6 2 0 (stepM x s).2.length)∧h=stB (stepM x s).1++[some (trC (stepM x s).2)]
theorem nth_lt {l:List Int} {i:Int} (h0:0≤i) (h:i<l.length):(l.map I64)[i.toNat]? = some (I64 (nth l i)):=by
 rw [List.getElem?_map,(nth_mem h0 h).1];rfl
theorem set_I (l:List Int) (i:Nat) (x:Int):(l.map I64).set i (.v (.int .i64 x))=(l.set i x).map I64:=(List.map_set).symm
theorem hdr0 {n:Nat} (h:0<n):(hdr 4 5 n)[0]? = some (.msl 4 1 0 4):=by
 unfold hdr
 match n,h with
 | n+1,_=>rfl
theorem hdr1 {n:Nat} (h:1<n):(hdr 4 5 n)[1]? = some (.msl 5 1 0 4):=by
 unfold hdr
 match n,h with
 | n+2,_=>rfl
theorem blk0_at {p:Pg} {m:Mm} (hm:MemFits p m) (h:0<m.arrays.length) {x:Int} (h0:0≤x) (h4:x<4):(blk0 m.arrays)[x.toNat]? = some (I64 (nth (arrAt m 0) x)):=by
 have e:m.arrays[0]? = some (arrAt m 0):=(arrAt_mem (m:=m) (v:=0) (by omega) (by omega)).1
 have hl:=(hm.arr _ (arrAt_mem (m:=m) (v:=0) (by omega) (by omega)).2).1
 unfold blk0
 rw [e]
 exact nth_lt h0 (by simp only [Option.getD_some];omega)
theorem blk1_at {p:Pg} {m:Mm} (hm:MemFits p m) (h:1<m.arrays.length) {x:Int} (h0:0≤x) (h4:x<4):(blk1 m.arrays)[x.toNat]? = some (I64 (nth (arrAt m 1) x)):=by
 have e:m.arrays[1]? = some (arrAt m 1):=(arrAt_mem (m:=m) (v:=1) (by omega) (by omega)).1
 have hl:=(hm.arr _ (arrAt_mem (m:=m) (v:=1) (by omega) (by omega)).2).1
 unfold blk1
 rw [e]
 exact nth_lt h0 (by simp only [Option.getD_some];omega)
theorem blk_len {p:Pg} {m:Mm} (hm:MemFits p m):(0<m.arrays.length→(blk0 m.arrays).length=4)∧(1<m.arrays.length→(blk1 m.arrays).length=4):=by
 refine ⟨fun h=>?_,fun h=>?_⟩
 ·have e:m.arrays[0]? = some (arrAt m 0):=(arrAt_mem (m:=m) (v:=0) (by omega) (by omega)).1
  have hl:=(hm.arr _ (arrAt_mem (m:=m) (v:=0) (by omega) (by omega)).2).1
  simp [blk0,e,hl]
 ·have e:m.arrays[1]? = some (arrAt m 1):=(arrAt_mem (m:=m) (v:=1) (by omega) (by omega)).1
  have hl:=(hm.arr _ (arrAt_mem (m:=m) (v:=1) (by omega) (by omega)).2).1
  simp [blk1,e,hl]
theorem reg_rng {l:List Int} (h14:l.length=14) (h:∀ r ∈ l,0≤r∧r≤255) {i:Int} (h0:0≤i) (h1:i≤13):0≤nth l i∧nth l i≤255:=h _ (nth_mem h0 (by omega)).2
theorem stepA (c : Cd) (s : Mc) (op a b c' d : Int) (ho : op = 1 ∨ op = 2 ∨ op = 3 ∨ op = 6 ∨ op = 8 ∨ op = 12 ∨ op = 13 ∨ op = 11) (hc1 : c.list.length ≤ 400) (hs : MOK c s) (hx : c.list[s.pc]? = some ⟨op, a, b, c', d⟩) (h : inOK c.vars.length c.arrays.length c.list.length ⟨op, a, b, c', d⟩ = true) :
 DC Tryz.prog 84 [.c (.ptr 0 0),.agg (cdC c)] (stB s) (stepR ⟨op,a,b,c',d⟩ s):=by
 have hmx:=mx_eq
 obtain ⟨h1,h2,h3,h4⟩:=hs
 have hbl:=blk_len h4
 have hb0:=fun h x h0 h4'=>blk0_at h4 h (x:=x) h0 h4'
 have hb1:=fun h x h0 h4'=>blk1_at h4 h (x:=x) h0 h4'
 have hnv:=h4.nv
 have hna:=h4.na
 have hn12:=h4.nv12
 have hn2:=h4.na2
 have hpcx:(s.pc:Int)+1=((s.pc+1:Nat):Int):=by omega
 obtain ⟨vs,ar,l⟩:=c
 obtain ⟨pc,rg,m⟩:=s
 simp only [hdC] at h1 h2 h3 hnv hna hn12 hn2 hx hc1 hbl hb0 hb1
 have hxl:(l.map inX)[pc]? = some (inX ⟨op,a,b,c',d⟩):=by rw [List.getElem?_map,hx];rfl
 have hrr:=fun (i:Int) (h0:0≤i) (h1:i≤13)=>nth_lt (l:=rg) (i:=i) h0 (by omega)
 have hrl:(rg.map I64).length=14:=by rw [List.length_map];exact h2
 have hrg:=fun (i:Int) (h0:0≤i) (h1:i≤13)=>reg_rng h2 h3 (i:=i) h0 h1
 have hvl:(m.vals.map I64).length=m.vals.length:=List.length_map _
 have hvv:=fun (i:Int) (h0:0≤i) (h1:i<m.vals.length)=>nth_lt (l:=m.vals) (i:=i) h0 h1
 have ret:∀ (K n:Nat) (pcv:Int) (cs c1 c2 c4 c5:List C) (hp:Hp),hp 0=some (some [.v (.int .i64 pcv),.msl 1 1 0 14,.msl 2 1 0 m.vals.length,.msl 3 1 0 m.arrays.length])→hp 1=some (some c1)→hp 2=some (some c2)→hp 3=some (some (hdr 4 5 m.arrays.length))→hp 4=some (some c4)→hp 5=some (some c5)→hp K=some (some cs)→6≤K →
  pcv=((stepM ⟨op,a,b,c',d⟩ ⟨pc,rg,m⟩).1.pc:Int)→c1=(stepM ⟨op,a,b,c',d⟩ ⟨pc,rg,m⟩).1.regs.map I64→c2=(stepM ⟨op,a,b,c',d⟩ ⟨pc,rg,m⟩).1.mem.vals.map I64→(stepM ⟨op,a,b,c',d⟩ ⟨pc,rg,m⟩).1.mem.vals.length=m.vals.length→(stepM ⟨op,a,b,c',d⟩ ⟨pc,rg,m⟩).1.mem.arrays.length=m.arrays.length →
  c4=blk0 (stepM ⟨op,a,b,c',d⟩ ⟨pc,rg,m⟩).1.mem.arrays→c5=blk1 (stepM ⟨op,a,b,c',d⟩ ⟨pc,rg,m⟩).1.mem.arrays→cs=trC (stepM ⟨op,a,b,c',d⟩ ⟨pc,rg,m⟩).2→n=(stepM ⟨op,a,b,c',d⟩ ⟨pc,rg,m⟩).2.length→RetOb 6 (stepR ⟨op,a,b,c',d⟩ ⟨pc,rg,m⟩) (.c (.msl K 2 0 n)) hp:=by
  rintro K n pcv cs c1 c2 c4 c5 hp q0 q1 q2 q3 q4 q5 qk hK e0 rfl rfl f1 f2 rfl rfl rfl rfl
  subst e0
  refine RetOb.ofQ (fun j=>if j=6 then some K else some j) [] (.c (.msl 6 2 0 _)) (stB (stepM ⟨op,a,b,c',d⟩ ⟨pc,rg,m⟩).1++[some (trC (stepM ⟨op,a,b,c',d⟩ ⟨pc,rg,m⟩).2)]) ?_ ⟨rfl,rfl⟩ (by simp [stB])
  simp [stB,enumL,hOf,DM,DMs,CM,CMs,HpOK,LowOK,upd,CMs_I,CMs_tr,CMs_hdr,CMs_b0,CMs_b1,f1,f2,q0,q1,q2,q3,q4,q5,qk]
  omega
 rcases ho with rfl | rfl | rfl | rfl | rfl | rfl | rfl | rfl
 all_goals
  simp only [inOK,kindsOf,fOK,topOf,Bool.and_eq_true,decide_eq_true_eq] at h
  simp at h
  generalize hR:stepR _ _=R at ret ⊢
  clear hR
  unfold stB cdC
 ·refine dcZ Tryz.func84 ?_
  simp only [go_sem,hxl,inX,hrl,hvl,set_I]
  iterate 20 ((try (refine drvZ Tryz.func84 ?_;simp only [go_sem,hxl,inX,hrl,hvl,set_I]));((with_reducible and_intros)<;>try exact sd))
  exact ret _ _ _ _ _ _ _ _ _ rfl rfl rfl rfl rfl rfl rfl (by decide) (by simp [stepM]) (by simp [stepM]) (by simp [stepM]) (by simp [stepM]) (by simp [stepM]) (by simp [stepM]) (by simp [stepM]) (by simp [stepM,trC,Ev.cells]) (by simp [stepM])
 ·have hv:=hvv b (by omega) (by omega)
  refine dcZ Tryz.func84 ?_
  simp only [go_sem,hxl,inX,hrl,hvl,set_I,hv]
  iterate 20 ((try (refine drvZ Tryz.func84 ?_;simp only [go_sem,hxl,inX,hrl,hvl,set_I,hv]));((with_reducible and_intros)<;>try exact sd))
  exact ret _ _ _ _ _ _ _ _ _ rfl rfl rfl rfl rfl rfl rfl (by decide) (by simp [stepM]) (by simp [stepM]) (by simp [stepM]) (by simp [stepM]) (by simp [stepM]) (by simp [stepM]) (by simp [stepM]) (by simp [stepM,trC,Ev.cells]) (by simp [stepM])
 ·have hv:=hrr b (by omega) (by omega)
  refine dcZ Tryz.func84 ?_
  simp only [go_sem,hxl,inX,hrl,hvl,set_I,hv]
  iterate 20 ((try (refine drvZ Tryz.func84 ?_;simp only [go_sem,hxl,inX,hrl,hvl,set_I,hv]));((with_reducible and_intros)<;>try exact sd))
  exact ret _ _ _ _ _ _ _ _ _ rfl rfl rfl rfl rfl rfl rfl (by decide) (by simp [stepM]) (by simp [stepM]) (by simp [stepM,setV]) (by simp [stepM,setV]) (by simp [stepM,setV]) (by simp [stepM,setV]) (by simp [stepM,setV]) (by simp [stepM,trC,Ev.cells]) (by simp [stepM])
 ·have hv:=hrr c' (by omega) (by omega)
  have hw:=hrr d (by omega) (by omega)
  have hop:=CtR.operate b (nth rg c') (nth rg d) (hrg _ (by omega) (by omega)) (hrg _ (by omega) (by omega))
  refine dcZ Tryz.func84 ?_
  simp only [go_sem,hxl,inX,hrl,hvl,set_I,hv,hw]
  iterate 20 ((try (refine drvZ Tryz.func84 ?_;simp only [go_sem,hxl,inX,hrl,hvl,set_I,hv,hw]));((with_reducible and_intros)<;>try exact sd);(try first | refine XK.p hop ok112 ?_ | refine XK.gp hop ok112 ?_))
  exact ret _ _ _ _ _ _ _ _ _ rfl rfl rfl rfl rfl rfl rfl (by decide) (by simp [stepM]) (by simp [stepM]) (by simp [stepM]) (by simp [stepM]) (by simp [stepM]) (by simp [stepM]) (by simp [stepM]) (by simp [stepM,trC,Ev.cells]) (by simp [stepM])
 ·have hta:a=((a.toNat:Nat):Int):=by omega
  refine dcZ Tryz.func84 ?_
  simp only [go_sem,hxl,inX,hrl,hvl,set_I]
  iterate 20 ((try (refine drvZ Tryz.func84 ?_;simp only [go_sem,hxl,inX,hrl,hvl,set_I]));((with_reducible and_intros)<;>try exact sd))
  exact ret _ _ _ _ _ _ _ _ _ rfl rfl rfl rfl rfl rfl rfl (by decide) (by simp [stepM];omega) (by simp [stepM]) (by simp [stepM]) (by simp [stepM]) (by simp [stepM]) (by simp [stepM]) (by simp [stepM]) (by simp [stepM,trC,Ev.cells]) (by simp [stepM])
 iterate 2
  focus
   refine dcZ Tryz.func84 ?_
   simp only [go_sem,hxl,inX,hrl,hvl,set_I]
   iterate 20 ((try (refine drvZ Tryz.func84 ?_;simp only [go_sem,hxl,inX,hrl,hvl,set_I]));((with_reducible and_intros)<;>try exact sd))
   exact ret _ _ _ _ _ _ _ _ _ rfl rfl rfl rfl rfl rfl rfl (by decide) (by simp [stepM]) (by simp [stepM]) (by simp [stepM]) (by simp [stepM]) (by simp [stepM]) (by simp [stepM]) (by simp [stepM]) (by simp [stepM,trC,Ev.cells]) (by simp [stepM])
 ·have hv:=hrr a (by omega) (by omega)
  refine dcZ Tryz.func84 ?_
  simp only [go_sem,hxl,inX,hrl,hvl,set_I,hv]
  iterate 20 ((try (refine drvZ Tryz.func84 ?_;simp only [go_sem,hxl,inX,hrl,hvl,set_I,hv]));((with_reducible and_intros)<;>try exact sd))
  exact ret _ _ _ _ _ _ _ _ _ rfl rfl rfl rfl rfl rfl rfl (by decide) (by simp [stepM]) (by simp [stepM]) (by simp [stepM]) (by simp [stepM]) (by simp [stepM]) (by simp [stepM]) (by simp [stepM]) (by simp [stepM,trC,Ev.cells]) (by simp [stepM])
open CtL (In Cd Mc stepM kindsOf topOf fOK inOK endOK codeOK)
theorem hdrL {n:Nat} (h:n≤2):(hdr 4 5 n).length=n:=by
 unfold hdr
 match n,h with
 | 0,_=>rfl
 | 1,_=>rfl
 | 2,_=>rfl
theorem stepB (c : Cd) (s : Mc) (op a b c' d : Int) (ho : op = 4 ∨ op = 5 ∨ op = 7 ∨ op = 9 ∨ op = 10) (hc1 : c.list.length ≤ 400) (hs : MOK c s) (hx : c.list[s.pc]? = some ⟨op, a, b, c', d⟩) (h : inOK c.vars.length c.arrays.length c.list.length ⟨op, a, b, c', d⟩ = true) :
 DC Tryz.prog 84 [.c (.ptr 0 0),.agg (cdC c)] (stB s) (stepR ⟨op,a,b,c',d⟩ s):=by
 have hmx:=mx_eq
 obtain ⟨h1,h2,h3,h4⟩:=hs
 have hbl:=blk_len h4
 have hb0:=fun h x h0 h4'=>blk0_at h4 h (x:=x) h0 h4'
 have hb1:=fun h x h0 h4'=>blk1_at h4 h (x:=x) h0 h4'
 have hnv:=h4.nv
 have hna:=h4.na
 have hn12:=h4.nv12
 have hn2:=h4.na2
 have hpcx:(s.pc:Int)+1=((s.pc+1:Nat):Int):=by omega
 obtain ⟨vs,ar,l⟩:=c
 obtain ⟨pc,rg,m⟩:=s
 simp only [hdC] at h1 h2 h3 hnv hna hn12 hn2 hx hc1 hbl hb0 hb1
 have hxl:(l.map inX)[pc]? = some (inX ⟨op,a,b,c',d⟩):=by rw [List.getElem?_map,hx];rfl
 have hrr:=fun (i:Int) (h0:0≤i) (h1:i≤13)=>nth_lt (l:=rg) (i:=i) h0 (by omega)
 have hrl:(rg.map I64).length=14:=by rw [List.length_map];exact h2
 have hrg:=fun (i:Int) (h0:0≤i) (h1:i≤13)=>reg_rng h2 h3 (i:=i) h0 h1
 have hvl:(m.vals.map I64).length=m.vals.length:=List.length_map _
 have hvv:=fun (i:Int) (h0:0≤i) (h1:i<m.vals.length)=>nth_lt (l:=m.vals) (i:=i) h0 h1
 have ret:∀ (K n:Nat) (pcv:Int) (cs c1 c2 c4 c5:List C) (hp:Hp),hp 0=some (some [.v (.int .i64 pcv),.msl 1 1 0 14,.msl 2 1 0 m.vals.length,.msl 3 1 0 m.arrays.length])→hp 1=some (some c1)→hp 2=some (some c2)→hp 3=some (some (hdr 4 5 m.arrays.length))→hp 4=some (some c4)→hp 5=some (some c5)→hp K=some (some cs)→6≤K →
  pcv=((stepM ⟨op,a,b,c',d⟩ ⟨pc,rg,m⟩).1.pc:Int)→c1=(stepM ⟨op,a,b,c',d⟩ ⟨pc,rg,m⟩).1.regs.map I64→c2=(stepM ⟨op,a,b,c',d⟩ ⟨pc,rg,m⟩).1.mem.vals.map I64→(stepM ⟨op,a,b,c',d⟩ ⟨pc,rg,m⟩).1.mem.vals.length=m.vals.length→(stepM ⟨op,a,b,c',d⟩ ⟨pc,rg,m⟩).1.mem.arrays.length=m.arrays.length →
  c4=blk0 (stepM ⟨op,a,b,c',d⟩ ⟨pc,rg,m⟩).1.mem.arrays→c5=blk1 (stepM ⟨op,a,b,c',d⟩ ⟨pc,rg,m⟩).1.mem.arrays→cs=trC (stepM ⟨op,a,b,c',d⟩ ⟨pc,rg,m⟩).2→n=(stepM ⟨op,a,b,c',d⟩ ⟨pc,rg,m⟩).2.length→RetOb 6 (stepR ⟨op,a,b,c',d⟩ ⟨pc,rg,m⟩) (.c (.msl K 2 0 n)) hp:=by
  rintro K n pcv cs c1 c2 c4 c5 hp q0 q1 q2 q3 q4 q5 qk hK e0 rfl rfl f1 f2 rfl rfl rfl rfl
  subst e0
  refine RetOb.ofQ (fun j=>if j=6 then some K else some j) [] (.c (.msl 6 2 0 _)) (stB (stepM ⟨op,a,b,c',d⟩ ⟨pc,rg,m⟩).1++[some (trC (stepM ⟨op,a,b,c',d⟩ ⟨pc,rg,m⟩).2)]) ?_ ⟨rfl,rfl⟩ (by simp [stB])
  simp [stB,enumL,hOf,DM,DMs,CM,CMs,HpOK,LowOK,upd,CMs_I,CMs_tr,CMs_hdr,CMs_b0,CMs_b1,f1,f2,q0,q1,q2,q3,q4,q5,qk]
  omega
 rcases ho with rfl | rfl | rfl | rfl | rfl
 all_goals
  simp only [inOK,kindsOf,fOK,topOf,Bool.and_eq_true,decide_eq_true_eq] at h
  simp at h
  generalize hR:stepR _ _=R at ret ⊢
  clear hR
  unfold stB cdC
 ·have hv:=hrr c' (by omega) (by omega)
  have hrc:=hrg c' (by omega) (by omega)
  have had:=CtR.address b (nth rg c') (by omega) (hrg _ (by omega) (by omega))
  have hmod:0≤nth rg c' % 4∧nth rg c' % 4<4:=by omega
  have hhl:=hdrL (n:=m.arrays.length) (by omega)
  have hb01:b=0∨b=1:=by omega
  rcases hb01 with rfl | rfl
  ·have hh:=hdr0 (n:=m.arrays.length) (by omega)
   have hbb:=hb0 (by omega) _ hmod.1 hmod.2
   have hl4:=hbl.1 (by omega)
   refine dcZ Tryz.func84 ?_
   simp only [go_sem,hxl,inX,hrl,hvl,set_I,hv,hh,hbb,hl4,hhl]
   iterate 20 ((try (refine drvZ Tryz.func84 ?_;simp only [go_sem,hxl,inX,hrl,hvl,set_I,hv,hh,hbb,hl4,hhl]));((with_reducible and_intros)<;>try exact sd);(try first | refine XK.p had ok111 ?_ | refine XK.gp had ok111 ?_))
   exact ret _ _ _ _ _ _ _ _ _ rfl rfl rfl rfl rfl rfl rfl (by decide) (by simp [stepM]) (by simp [stepM]) (by simp [stepM]) (by simp [stepM]) (by simp [stepM]) (by simp [stepM]) (by simp [stepM]) (by simp [stepM,trC,Ev.cells]) (by simp [stepM])
  ·have hh:=hdr1 (n:=m.arrays.length) (by omega)
   have hbb:=hb1 (by omega) _ hmod.1 hmod.2
   have hl4:=hbl.2 (by omega)
   refine dcZ Tryz.func84 ?_
   simp only [go_sem,hxl,inX,hrl,hvl,set_I,hv,hh,hbb,hl4,hhl]
   iterate 20 ((try (refine drvZ Tryz.func84 ?_;simp only [go_sem,hxl,inX,hrl,hvl,set_I,hv,hh,hbb,hl4,hhl]));((with_reducible and_intros)<;>try exact sd);(try first | refine XK.p had ok111 ?_ | refine XK.gp had ok111 ?_))
   exact ret _ _ _ _ _ _ _ _ _ rfl rfl rfl rfl rfl rfl rfl (by decide) (by simp [stepM]) (by simp [stepM]) (by simp [stepM]) (by simp [stepM]) (by simp [stepM]) (by simp [stepM]) (by simp [stepM]) (by simp [stepM,trC,Ev.cells]) (by simp [stepM])
 ·have hv:=hrr b (by omega) (by omega)
  have hw:=hrr c' (by omega) (by omega)
  have hrc:=hrg b (by omega) (by omega)
  have had:=CtR.address a (nth rg b) (by omega) (hrg _ (by omega) (by omega))
  have hmod:0≤nth rg b % 4∧nth rg b % 4<4:=by omega
  have hhl:=hdrL (n:=m.arrays.length) (by omega)
  have hb01:a=0∨a=1:=by omega
  rcases hb01 with rfl | rfl
  ·have hh:=hdr0 (n:=m.arrays.length) (by omega)
   have hbb:=hb0 (by omega) _ hmod.1 hmod.2
   have hl4:=hbl.1 (by omega)
   refine dcZ Tryz.func84 ?_
   simp only [go_sem,hxl,inX,hrl,hvl,set_I,hv,hw,hh,hbb,hl4,hhl]
   iterate 20 ((try (refine drvZ Tryz.func84 ?_;simp only [go_sem,hxl,inX,hrl,hvl,set_I,hv,hw,hh,hbb,hl4,hhl]));((with_reducible and_intros)<;>try exact sd);(try first | refine XK.p had ok111 ?_ | refine XK.gp had ok111 ?_))
   exact ret _ _ _ _ _ _ _ _ _ rfl rfl rfl rfl rfl rfl rfl (by decide) (by simp [stepM]) (by simp [stepM]) (by simp [stepM,setA]) (by simp [stepM,setA]) (by simp [stepM,setA]) (by simp only [stepM];simp;rw [blk0_set0 _ _ _ (by omega)]) (by simp only [stepM];simp;rw [blk1_set0]) (by simp [stepM,trC,Ev.cells]) (by simp [stepM])
  ·have hh:=hdr1 (n:=m.arrays.length) (by omega)
   have hbb:=hb1 (by omega) _ hmod.1 hmod.2
   have hl4:=hbl.2 (by omega)
   refine dcZ Tryz.func84 ?_
   simp only [go_sem,hxl,inX,hrl,hvl,set_I,hv,hw,hh,hbb,hl4,hhl]
   iterate 20 ((try (refine drvZ Tryz.func84 ?_;simp only [go_sem,hxl,inX,hrl,hvl,set_I,hv,hw,hh,hbb,hl4,hhl]));((with_reducible and_intros)<;>try exact sd);(try first | refine XK.p had ok111 ?_ | refine XK.gp had ok111 ?_))
   exact ret _ _ _ _ _ _ _ _ _ rfl rfl rfl rfl rfl rfl rfl (by decide) (by simp [stepM]) (by simp [stepM]) (by simp [stepM,setA]) (by simp [stepM,setA]) (by simp [stepM,setA]) (by simp only [stepM];simp;rw [blk0_set1]) (by simp only [stepM];simp;rw [blk1_set1 _ _ _ (by omega)]) (by simp [stepM,trC,Ev.cells]) (by simp [stepM])
 ·have hv:=hrr b (by omega) (by omega)
  have hw:=hrr c' (by omega) (by omega)
  have hu:=hrr d (by omega) (by omega)
  by_cases hz:nth rg b=0
  ·have g1:(nth rg b != 0)=false:=by simp [hz]
   refine dcZ Tryz.func84 ?_
   simp only [go_sem,hxl,inX,hrl,hvl,set_I,hv,hw,hu,hz,g1,bne_self_eq_false]
   iterate 20 ((try (refine drvZ Tryz.func84 ?_;simp only [go_sem,hxl,inX,hrl,hvl,set_I,hv,hw,hu,hz,g1,bne_self_eq_false]));((with_reducible and_intros)<;>try exact sd))
   exact ret _ _ _ _ _ _ _ _ _ rfl rfl rfl rfl rfl rfl rfl (by decide) (by simp [stepM]) (by simp [stepM,hz]) (by simp [stepM]) (by simp [stepM]) (by simp [stepM]) (by simp [stepM]) (by simp [stepM]) (by simp [stepM,trC,Ev.cells]) (by simp [stepM])
  ·have g1:(nth rg b != 0)=true:=by simp [hz]
   refine dcZ Tryz.func84 ?_
   simp only [go_sem,hxl,inX,hrl,hvl,set_I,hv,hw,hu,hz,g1]
   iterate 20 ((try (refine drvZ Tryz.func84 ?_;simp only [go_sem,hxl,inX,hrl,hvl,set_I,hv,hw,hu,hz,g1]));((with_reducible and_intros)<;>try exact sd))
   exact ret _ _ _ _ _ _ _ _ _ rfl rfl rfl rfl rfl rfl rfl (by decide) (by simp [stepM]) (by simp [stepM,hz]) (by simp [stepM]) (by simp [stepM]) (by simp [stepM]) (by simp [stepM]) (by simp [stepM]) (by simp [stepM,trC,Ev.cells]) (by simp [stepM])
 ·have hv:=hrr a (by omega) (by omega)
  have htb:b=((b.toNat:Nat):Int):=by omega
  by_cases hz:nth rg a=0
  ·have g1:(nth rg a == 0)=true:=by simp [hz]
   refine dcZ Tryz.func84 ?_
   simp only [go_sem,hxl,inX,hrl,hvl,set_I,hv,hz,g1,beq_self_eq_true]
   iterate 20 ((try (refine drvZ Tryz.func84 ?_;simp only [go_sem,hxl,inX,hrl,hvl,set_I,hv,hz,g1,beq_self_eq_true]));((with_reducible and_intros)<;>try exact sd))
   exact ret _ _ _ _ _ _ _ _ _ rfl rfl rfl rfl rfl rfl rfl (by decide) (by simp [stepM,hz];omega) (by simp [stepM]) (by simp [stepM]) (by simp [stepM]) (by simp [stepM]) (by simp [stepM]) (by simp [stepM]) (by simp [stepM,trC,Ev.cells]) (by simp [stepM])
  ·have g1:(nth rg a == 0)=false:=by simp [hz]
   refine dcZ Tryz.func84 ?_
   simp only [go_sem,hxl,inX,hrl,hvl,set_I,hv,hz,g1]
   iterate 20 ((try (refine drvZ Tryz.func84 ?_;simp only [go_sem,hxl,inX,hrl,hvl,set_I,hv,hz,g1]));((with_reducible and_intros)<;>try exact sd))
   exact ret _ _ _ _ _ _ _ _ _ rfl rfl rfl rfl rfl rfl rfl (by decide) (by simp [stepM,hz]) (by simp [stepM]) (by simp [stepM]) (by simp [stepM]) (by simp [stepM]) (by simp [stepM]) (by simp [stepM]) (by simp [stepM,trC,Ev.cells]) (by simp [stepM])
 ·have hv:=hrr a (by omega) (by omega)
  have hrc:=hrg a (by omega) (by omega)
  have htb:b=((b.toNat:Nat):Int):=by omega
  obtain ⟨y,hy⟩:∃ y,y=(nth rg a+255) % 256:=⟨_,rfl⟩
  have hs2:(rg.set a.toNat y)[a.toNat]? = some y:=List.getElem?_set_self (by omega)
  have hsl:((rg.set a.toNat y).map I64).length=14:=by simp [h2]
  by_cases hz:y=0
  ·subst hz
   have hq:(nth rg a+255) % 256=0:=hy.symm
   refine dcZ Tryz.func84 ?_
   simp only [go_sem,hxl,inX,hrl,hvl,set_I,hv,← hy,hs2,hsl,bne_self_eq_false]
   iterate 20 ((try (refine drvZ Tryz.func84 ?_;simp only [go_sem,hxl,inX,hrl,hvl,set_I,hv,← hy,hs2,hsl,bne_self_eq_false]));((with_reducible and_intros)<;>try exact sd))
   exact ret _ _ _ _ _ _ _ _ _ rfl rfl rfl rfl rfl rfl rfl (by decide) (by simp [stepM,hq]) (by simp [stepM,hq]) (by simp [stepM]) (by simp [stepM]) (by simp [stepM]) (by simp [stepM]) (by simp [stepM]) (by simp [stepM,trC,Ev.cells]) (by simp [stepM])
  ·have g1:(y != 0)=true:=by simp [hz]
   have hq:(nth rg a+255) % 256 ≠ 0:=by rw [← hy];exact hz
   refine dcZ Tryz.func84 ?_
   simp only [go_sem,hxl,inX,hrl,hvl,set_I,hv,← hy,hs2,hsl,hz,g1]
   iterate 20 ((try (refine drvZ Tryz.func84 ?_;simp only [go_sem,hxl,inX,hrl,hvl,set_I,hv,← hy,hs2,hsl,hz,g1]));((with_reducible and_intros)<;>try exact sd))
   exact ret _ _ _ _ _ _ _ _ _ rfl rfl rfl rfl rfl rfl rfl (by decide) (by simp [stepM,hq];omega) (by simp [stepM,hy]) (by simp [stepM]) (by simp [stepM]) (by simp [stepM]) (by simp [stepM]) (by simp [stepM]) (by simp [stepM,trC,Ev.cells]) (by simp [stepM])
open CtL (In Cd Mc stepM kindsOf topOf fOK inOK endOK codeOK runM atC halt)
theorem stepI (c : Cd) (s : Mc) (x : In) (hc1 : c.list.length ≤ 400) (hs : MOK c s) (hx : c.list[s.pc]? = some x) (h : inOK c.vars.length c.arrays.length c.list.length x = true) :
 DC Tryz.prog 84 [.c (.ptr 0 0),.agg (cdC c)] (stB s) (stepR x s):=by
 obtain ⟨op,a,b,c',d⟩:=x
 have ho:1≤op∧op≤13:=by
  simp only [inOK,Bool.and_eq_true,decide_eq_true_eq] at h
  exact ⟨h.1.1.1.1.1,h.1.1.1.1.2⟩
 have key:op=1∨op=2∨op=3∨op=4∨op=5∨op=6∨op=7∨op=8∨op=9∨op=10∨op=11∨op=12∨op=13:=by omega
 rcases key with rfl | rfl | rfl | rfl | rfl | rfl | rfl | rfl | rfl | rfl | rfl | rfl | rfl
 ·exact stepA c s _ a b c' d (by omega) hc1 hs hx h
 ·exact stepA c s _ a b c' d (by omega) hc1 hs hx h
 ·exact stepA c s _ a b c' d (by omega) hc1 hs hx h
 ·exact stepB c s _ a b c' d (by omega) hc1 hs hx h
 ·exact stepB c s _ a b c' d (by omega) hc1 hs hx h
 ·exact stepA c s _ a b c' d (by omega) hc1 hs hx h
 ·exact stepB c s _ a b c' d (by omega) hc1 hs hx h
 ·exact stepA c s _ a b c' d (by omega) hc1 hs hx h
 ·exact stepB c s _ a b c' d (by omega) hc1 hs hx h
 ·exact stepB c s _ a b c' d (by omega) hc1 hs hx h
 ·exact stepA c s _ a b c' d (by omega) hc1 hs hx h
 ·exact stepA c s _ a b c' d (by omega) hc1 hs hx h
 ·exact stepA c s _ a b c' d (by omega) hc1 hs hx h
theorem regs_set {l:List Int} (h14:l.length=14) (h:∀ r ∈ l,0≤r∧r≤255) {i:Nat} {x:Int} (hx:0≤x∧x≤255):(l.set i x).length=14∧∀ r ∈ l.set i x,0≤r∧r≤255 :=
 ⟨by simp [h14],fun r hr=>(List.mem_or_eq_of_mem_set hr).elim (h r) fun e=>by rw [e];exact hx⟩
theorem step_ok {c:Cd} {s:Mc} {x:In} (hc:codeOK c=true) (hs:MOK c s) (hx:c.list[s.pc]? = some x):MOK c (stepM x s).1:=by
 have hcl:=code_len hc
 have h:=(by simp only [codeOK,Bool.and_eq_true,List.all_eq_true] at hc;exact hc.1.2 x (List.mem_of_getElem? hx):inOK c.vars.length c.arrays.length c.list.length x=true)
 have hend:s.pc+1=c.list.length→x.op=13∨x.op=8:=fun e=>by
  simp only [codeOK,endOK,Bool.and_eq_true,Bool.or_eq_true,beq_iff_eq] at hc
  have:atC c.list (c.list.length - 1)=x:=by
   rw [show c.list.length - 1=s.pc by omega];simp [atC,List.getD,hx]
  rw [this] at hc
  exact hc.2
 obtain ⟨h1,h2,h3,h4⟩:=hs
 obtain ⟨op,a,b,c',d⟩:=x
 simp only at hend
 have hnv:=h4.nv
 have hna:=h4.na
 simp only [hdC] at hnv hna
 have hrg:=fun (i:Int) (h0:0≤i) (h1:i≤13)=>reg_rng h2 h3 (i:=i) h0 h1
 simp only [inOK,kindsOf,fOK,topOf,Bool.and_eq_true,decide_eq_true_eq] at h
 have key:op=1∨op=2∨op=3∨op=4∨op=5∨op=6∨op=7∨op=8∨op=9∨op=10∨op=11∨op=12∨op=13:=by omega
 rcases key with rfl | rfl | rfl | rfl | rfl | rfl | rfl | rfl | rfl | rfl | rfl | rfl | rfl
 all_goals simp at h hend
 ·have:=regs_set h2 h3 (i:=a.toNat) (x:=b) (by omega)
  exact ⟨by simp [stepM];omega,by simpa [stepM] using this.1,by simpa [stepM] using this.2,by simpa [stepM] using h4⟩
 ·have hv:=h4.val _ (nth_mem (l:=s.mem.vals) (i:=b) (by omega) (by omega)).2
  have:=regs_set h2 h3 (i:=a.toNat) (x:=nth s.mem.vals b) hv
  exact ⟨by simp [stepM];omega,by simpa [stepM] using this.1,by simpa [stepM] using this.2,by simpa [stepM] using h4⟩
 ·exact ⟨by simp [stepM];omega,by simpa [stepM] using h2,by simpa [stepM] using h3,by simpa [stepM] using h4.setV (t:=a) (hrg b (by omega) (by omega))⟩
 ·have hr:=hrg c' (by omega) (by omega)
  have ha:=h4.arr _ (arrAt_mem (m:=s.mem) (v:=b) (by omega) (by omega)).2
  have hv:=ha.2 _ (nth_mem (l:=arrAt s.mem b) (i:=nth s.regs c' % 4) (by omega) (by rw [ha.1];omega)).2
  have:=regs_set h2 h3 (i:=a.toNat) (x:=nth (arrAt s.mem b) (nth s.regs c' % 4)) hv
  exact ⟨by simp [stepM];omega,by simpa [stepM] using this.1,by simpa [stepM] using this.2,by simpa [stepM] using h4⟩
 ·exact ⟨by simp [stepM];omega,by simpa [stepM] using h2,by simpa [stepM] using h3,by simpa [stepM] using h4.setA (t:=a) (i:=nth s.regs b % 4) ⟨by omega,by omega⟩ (hrg c' (by omega) (by omega))⟩
 ·have:=regs_set h2 h3 (i:=a.toNat) (x:=bin b (nth s.regs c') (nth s.regs d)) (bin_range (hrg _ (by omega) (by omega)) (hrg _ (by omega) (by omega)))
  exact ⟨by simp [stepM];omega,by simpa [stepM] using this.1,by simpa [stepM] using this.2,by simpa [stepM] using h4⟩
 ·have:=regs_set h2 h3 (i:=a.toNat) (x:=if nth s.regs b ≠ 0 then nth s.regs c' else nth s.regs d) (by split;exact hrg _ (by omega) (by omega);exact hrg _ (by omega) (by omega))
  exact ⟨by simp [stepM];omega,by simpa [stepM] using this.1,by simpa [stepM] using this.2,by simpa [stepM] using h4⟩
 ·exact ⟨by simp [stepM];omega,by simpa [stepM] using h2,by simpa [stepM] using h3,by simpa [stepM] using h4⟩
 ·exact ⟨by simp only [stepM];simp;split<;>omega,by simpa [stepM] using h2,by simpa [stepM] using h3,by simpa [stepM] using h4⟩
 ·have:=regs_set h2 h3 (i:=a.toNat) (x:=(nth s.regs a+255) % 256) (by omega)
  exact ⟨by simp only [stepM];simp;split<;>omega,by simpa [stepM] using this.1,by simpa [stepM] using this.2,by simpa [stepM] using h4⟩
 ·exact ⟨by simp [stepM];omega,by simpa [stepM] using h2,by simpa [stepM] using h3,by simpa [stepM] using h4⟩
 ·exact ⟨by simp [stepM];omega,by simpa [stepM] using h2,by simpa [stepM] using h3,by simpa [stepM] using h4⟩
 ·exact ⟨by simp [stepM];exact h1,by simpa [stepM] using h2,by simpa [stepM] using h3,by simpa [stepM] using h4⟩
theorem step_len (x:In) (s:Mc):(stepM x s).2.length≤2:=by
 unfold stepM
 by_cases h1:x.op=1
 ·rw [if_pos h1];simp
 rw [if_neg h1]
 by_cases h2:x.op=2
 ·rw [if_pos h2];simp
 rw [if_neg h2]
 by_cases h3:x.op=3
 ·rw [if_pos h3];simp
 rw [if_neg h3]
 by_cases h4:x.op=4
 ·rw [if_pos h4];simp
 rw [if_neg h4]
 by_cases h5:x.op=5
 ·rw [if_pos h5];simp
 rw [if_neg h5]
 by_cases h6:x.op=6
 ·rw [if_pos h6];simp
 rw [if_neg h6]
 by_cases h7:x.op=7
 ·rw [if_pos h7];simp
 rw [if_neg h7]
 by_cases h8:x.op=8
 ·rw [if_pos h8];simp
 rw [if_neg h8]
 by_cases h9:x.op=9
 ·rw [if_pos h9];simp
 rw [if_neg h9]
 by_cases h10:x.op=10
 ·rw [if_pos h10];simp
 rw [if_neg h10]
 by_cases h11:x.op=11
 ·rw [if_pos h11];simp
 rw [if_neg h11]
 by_cases h13:x.op=13
 ·rw [if_pos h13];simp
 rw [if_neg h13]
 simp
theorem ranFn (pc : Int) (T E : List Ev) (hT : T.length ≤ 100000) (hE : E.length ≤ 100) : DC Tryz.prog 58 [DI .i64 pc, .c (.msl 2 2 0 E.length), .c (.ptr 0 0)] [some [.msl 1 2 0 T.length], some (trC T), some (trC E)]
 (fun r h=>r = .tup []∧h=[some [.msl 3 2 0 (T++E).length],none,some (trC E),some (trC (T++E))]):=by
 have hmx:=mx_eq
 have h1:=trC_len T
 have h2:=trC_len E
 have h3:(trC E).take (E.length * 2)=trC E:=by rw [← h2,List.take_length]
 refine dcZ Tryz.func58 ?_
 simp only [go_sem,h1,h2,h3]
 iterate 3 ((try (refine drvZ Tryz.func58 ?_;simp only [go_sem,h1,h2,h3]));((with_reducible and_intros)<;>try exact sd))
 refine RetOb.ofQ (fun j=>if j=3 then some 131 else some j) [] (.tup []) [some [.msl 3 2 0 (T++E).length],none,some (trC E),some (trC (T++E))] ?_ ⟨rfl,rfl⟩ (by simp)
 simp [enumL,hOf,DM,DMs,CM,CMs,HpOK,LowOK,upd,hpL,CMs_tr,trC_app]
 exact CMs.kf (kf_app (trC_kf T) (trC_kf E))
end Go.Proofs.YtoakidkcppinpaaGreat.CtD
