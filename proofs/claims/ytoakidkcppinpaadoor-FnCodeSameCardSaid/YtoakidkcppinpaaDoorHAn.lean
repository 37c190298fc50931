/- Contracts of functions of the program, one behind the other, as plain data: what each call returns and which blocks it leaves. -/
import Derived.Test.YtoakidkcppinpaaDoorHFacts
import Derived.Test.YtoakidkcppinpaaDoorHAj
import Derived.Test.YtoakidkcppinpaaDoorHAk
import Derived.Test.YtoakidkcppinpaaDoorHAm
import Derived.Test.YtoakidkcppinpaaDoorHAl
import Derived.Test.YtoakidkcppinpaaDoorHXy
set_option linter.unusedVariables false
set_option linter.unusedSimpArgs false
set_option linter.unusedSectionVars false
set_option maxHeartbeats 16000000
set_option maxRecDepth 100000
namespace Go.Proofs.YtoakidkcppinpaaDoor.CtD
open Go Go.CT CtF CtR
variable [Yn]
open CtL (In Cd)
theorem inC_cons (x:In) (l:List In):inC (x :: l)=inX x++inC l:=by simp [inC]
open CtL (In Cd halt)
def cdC (c:Cd):List C:=[isI c.vars,isI c.arrays,.isl 5 (c.list.map inX)]
theorem I_len1 (l:List Int):∀ x ∈ l.map (fun n=>[I64 n]),x.length=1:=fun x hx=>by obtain ⟨e,_,rfl⟩:=List.mem_map.1 hx;rfl
theorem I_kf1 (l:List Int):∀ x ∈ l.map (fun n=>[I64 n]),∀ c ∈ x,kf c=true:=fun x hx c hc=>by
  obtain ⟨e,_,rfl⟩:=List.mem_map.1 hx
  rw [List.mem_singleton.1 hc];rfl
theorem in_flat (l:List In):(l.map inX).flatten=inC l:=rfl
theorem in_len5 (l:List In):∀ x ∈ l.map inX,x.length=5:=fun x hx=>by obtain ⟨e,_,rfl⟩:=List.mem_map.1 hx;rfl
theorem in_kf5 (l:List In):∀ x ∈ l.map inX,∀ c ∈ x,kf c=true:=fun x hx c hc=>inC_kf l c (List.mem_flatten.2 ⟨x,hx,hc⟩)
open CtL (In Cd kindsOf topOf fOK inOK endOK codeOK)
def ltr (k:Nat):UInt8:=if k=0 then 45 else if k=1 then 114 else if k=2 then 110 else if k=3 then 118 else if k=4 then 97 else if k=5 then 111 else 105
def shp (op:Int):ByteArray:=⟨#[ltr ((kindsOf op).getD 0 0),ltr ((kindsOf op).getD 1 0),ltr ((kindsOf op).getD 2 0),ltr ((kindsOf op).getD 3 0)]⟩
theorem shapeI (op:Int) (h:1≤op∧op≤13):DC Tryd.prog 54 [DI .i64 op] [] (fun r h=>r=DS (shp op)∧h=[]):=by
  have hmx:=mx_eq
  have hw:=CtR.within op 1 13
  have key:op=1∨op=2∨op=3∨op=4∨op=5∨op=6∨op=7∨op=8∨op=9∨op=10∨op=11∨op=12∨op=13:=by omega
  rcases key with rfl | rfl | rfl | rfl | rfl | rfl | rfl | rfl | rfl | rfl | rfl | rfl | rfl
  all_goals
    refine dcZ Tryd.func54 ?_
    simp only [go_sem]
    iterate 4 ((try (refine drvZ Tryd.func54 ?_;simp only [go_sem,Int.reduceLE,Int.reduceSub,Int.reduceToNat]));((with_reducible and_intros)<;>try exact sd);(try first | refine XK.p hw ok41 ?_ | refine XK.gp hw ok41 ?_))
    exact RetOb.plain (d:=DS _) ⟨rfl,rfl⟩ rfl
theorem fieldOkT (c : Cd) (h1 : c.vars.length ≤ mx) (h2 : c.arrays.length ≤ mx) (h3 : c.list.length ≤ mx) (k : Nat) (hk : k ≤ 6) (n : Int) (h : fOK c.vars.length c.arrays.length c.list.length k n = true) :
    DC Tryd.prog 56 [.agg (cdC c),.c (.v (.int .u8 (ltr k).toNat)),DI .i64 n] [] (fun r h=>r=DB true∧h=[]):=by
  have hmx:=mx_eq
  have hw:=fun hi=>CtR.within n 0 hi
  have hw4:=CtR.within n 4 10
  obtain ⟨vs,ar,ls⟩:=c
  simp only at h1 h2 h3 h
  simp only [fOK,topOf,Bool.and_eq_true,decide_eq_true_eq] at h
  have key:k=0∨k=1∨k=2∨k=3∨k=4∨k=5∨k=6:=by omega
  unfold cdC
  rcases key with rfl | rfl | rfl | rfl | rfl | rfl | rfl
  · rw [show (((ltr 0).toNat:Nat):Int)=45 from rfl]
    obtain rfl:n=0:=by simp at h;omega
    refine dcZ Tryd.func56 ?_
    simp only [go_sem]
    iterate 9 ((try (refine drvZ Tryd.func56 ?_;simp only [go_sem]));((with_reducible and_intros)<;>try exact sd))
    exact RetOb.plain (d:=DB true) ⟨rfl,rfl⟩ rfl
  · rw [show (((ltr 1).toNat:Nat):Int)=114 from rfl]
    have g1:decide (0≤n)=true:=by simp at h ⊢;omega
    have g2:decide (n≤13)=true:=by simp at h ⊢;omega
    have hw:=hw (13)
    rw [g1,g2] at hw
    refine dcZ Tryd.func56 ?_
    simp only [go_sem]
    iterate 10 ((try (refine drvZ Tryd.func56 ?_;simp only [go_sem,Int.reduceLE,List.length_map]));((with_reducible and_intros)<;>try exact sd);(try first | refine XK.p hw ok41 ?_ | refine XK.gp hw ok41 ?_))
    exact RetOb.plain (d:=DB true) ⟨rfl,rfl⟩ rfl
  · rw [show (((ltr 2).toNat:Nat):Int)=110 from rfl]
    have g1:decide (0≤n)=true:=by simp at h ⊢;omega
    have g2:decide (n≤255)=true:=by simp at h ⊢;omega
    have hw:=hw (255)
    rw [g1,g2] at hw
    refine dcZ Tryd.func56 ?_
    simp only [go_sem]
    iterate 10 ((try (refine drvZ Tryd.func56 ?_;simp only [go_sem,Int.reduceLE,List.length_map]));((with_reducible and_intros)<;>try exact sd);(try first | refine XK.p hw ok41 ?_ | refine XK.gp hw ok41 ?_))
    exact RetOb.plain (d:=DB true) ⟨rfl,rfl⟩ rfl
  · rw [show (((ltr 3).toNat:Nat):Int)=118 from rfl]
    have g1:decide (0≤n)=true:=by simp at h ⊢;omega
    have g2:decide (n≤(vs.length:Int) - 1)=true:=by simp at h ⊢;omega
    have hw:=hw ((vs.length:Int) - 1)
    rw [g1,g2] at hw
    refine dcZ Tryd.func56 ?_
    simp only [go_sem]
    iterate 10 ((try (refine drvZ Tryd.func56 ?_;simp only [go_sem,Int.reduceLE,List.length_map]));((with_reducible and_intros)<;>try exact sd);(try first | refine XK.p hw ok41 ?_ | refine XK.gp hw ok41 ?_))
    exact RetOb.plain (d:=DB true) ⟨rfl,rfl⟩ rfl
  · rw [show (((ltr 4).toNat:Nat):Int)=97 from rfl]
    have g1:decide (0≤n)=true:=by simp at h ⊢;omega
    have g2:decide (n≤(ar.length:Int) - 1)=true:=by simp at h ⊢;omega
    have hw:=hw ((ar.length:Int) - 1)
    rw [g1,g2] at hw
    refine dcZ Tryd.func56 ?_
    simp only [go_sem]
    iterate 10 ((try (refine drvZ Tryd.func56 ?_;simp only [go_sem,Int.reduceLE,List.length_map]));((with_reducible and_intros)<;>try exact sd);(try first | refine XK.p hw ok41 ?_ | refine XK.gp hw ok41 ?_))
    exact RetOb.plain (d:=DB true) ⟨rfl,rfl⟩ rfl
  · rw [show (((ltr 5).toNat:Nat):Int)=111 from rfl]
    have g1:decide (4≤n)=true:=by simp at h ⊢;omega
    have g2:decide (n≤10)=true:=by simp at h ⊢;omega
    rw [g1,g2] at hw4
    refine dcZ Tryd.func56 ?_
    simp only [go_sem]
    iterate 10 ((try (refine drvZ Tryd.func56 ?_;simp only [go_sem,Int.reduceLE,List.length_map]));((with_reducible and_intros)<;>try exact sd);(try first | refine XK.p hw4 ok41 ?_ | refine XK.gp hw4 ok41 ?_))
    exact RetOb.plain (d:=DB true) ⟨rfl,rfl⟩ rfl
  · rw [show (((ltr 6).toNat:Nat):Int)=105 from rfl]
    have g1:decide (0≤n)=true:=by simp at h ⊢;omega
    have g2:decide (n≤(ls.length:Int) - 1)=true:=by simp at h ⊢;omega
    have hw:=hw ((ls.length:Int) - 1)
    rw [g1,g2] at hw
    refine dcZ Tryd.func56 ?_
    simp only [go_sem]
    iterate 10 ((try (refine drvZ Tryd.func56 ?_;simp only [go_sem,Int.reduceLE,List.length_map]));((with_reducible and_intros)<;>try exact sd);(try first | refine XK.p hw ok41 ?_ | refine XK.gp hw ok41 ?_))
    exact RetOb.plain (d:=DB true) ⟨rfl,rfl⟩ rfl
theorem fieldsI (x:In):DC Tryd.prog 55 [.agg (inX x)] [] (fun r h=>r = .c (isI [x.a,x.b,x.c,x.d])∧h=[]):=by
  have hmx:=mx_eq
  obtain ⟨op,a,b,c,d⟩:=x
  unfold inX
  refine dcZ Tryd.func55 ?_
  simp only [go_sem]
  iterate 3 ((try (refine drvZ Tryd.func55 ?_;simp only [go_sem]));((with_reducible and_intros)<;>try exact sd))
  refine RetOb.ofQ (fun _=>none) [640] (.c (isI [a,b,c,d])) [] ?_ ⟨rfl,rfl⟩ (by simp)
  simp [enumL,hOf,DM,CM,CMs,HpOK,LowOK,upd,kf,isI]
theorem kinds_le (op:Int) (i:Nat):(kindsOf op).getD i 0≤6:=by
  have:∀ l:List Nat,(∀ x ∈ l,x≤6)→l.getD i 0≤6:=fun l h=>by
    rw [List.getD_eq_getElem?_getD]
    cases hx:l[i]? with
    | none=>simp
    | some x=>simpa using h x (List.mem_of_getElem? hx)
  apply this
  unfold kindsOf
  repeat' split
  all_goals simp
theorem shp_at (op:Int) (i:Nat) (h:i<4):(shp op).data.toList.getD i 0=ltr ((kindsOf op).getD i 0):=by
  have:i=0∨i=1∨i=2∨i=3:=by omega
  rcases this with rfl | rfl | rfl | rfl<;>rfl
theorem toList_nil:ByteArray.toList { data:=#[] }=[]:=by
  unfold ByteArray.toList
  unfold ByteArray.toList.loop
  rfl
theorem loop_len (bs : ByteArray) : ∀ (n i : Nat) (r : List UInt8), bs.size - i = n → (ByteArray.toList.loop bs i r).length = r.length + n
  | 0,i,r,h=>by
    unfold ByteArray.toList.loop
    rw [if_neg (by omega)];simp
  | n+1,i,r,h=>by
    unfold ByteArray.toList.loop
    rw [if_pos (by omega),loop_len bs n (i+1) _ (by omega)]
    simp only [List.length_cons];omega
theorem shp_ne (op:Int) (h:1≤op∧op≤13):((shp op).toList == (ByteArray.toList { data:=#[] }))=false:=by
  rw [toList_nil,beq_eq_false_iff_ne]
  intro he
  have:=loop_len (shp op) 4 0 [] rfl
  unfold ByteArray.toList at he
  rw [he] at this
  simp at this
theorem instrOkT (c : Cd) (h1 : c.vars.length ≤ mx) (h2 : c.arrays.length ≤ mx) (h3 : c.list.length ≤ mx) (x : In) (h : inOK c.vars.length c.arrays.length c.list.length x = true) :
    DC Tryd.prog 44 [.agg (cdC c),.agg (inX x)] [] (fun r h=>r=DB true∧h=[]):=by
  have hmx:=mx_eq
  have hf:=fun k hk n hn=>fieldOkT c h1 h2 h3 k hk n hn
  have hfi:=fieldsI x
  obtain ⟨op,a,b,c',d⟩:=x
  simp only [inOK,Bool.and_eq_true,decide_eq_true_eq] at h
  obtain ⟨⟨⟨⟨⟨o1,o2⟩,q0⟩,q1⟩,q2⟩,q3⟩:=h
  have hsh:=shapeI op ⟨o1,o2⟩
  have hq:∀ i:Nat,i<4→fOK c.vars.length c.arrays.length c.list.length ((kindsOf op).getD i 0) ([a,b,c',d].getD i 0)=true:=fun i hi=>by
    have:i=0∨i=1∨i=2∨i=3:=by omega
    rcases this with rfl | rfl | rfl | rfl<;>assumption
  have hsz:(shp op).size=4:=rfl
  have hse:((shp op).toList == (ByteArray.toList { data:=#[] }))=false:=shp_ne op ⟨o1,o2⟩
  unfold cdC at hf ⊢
  unfold inX at hfi
  unfold inX
  refine dcZ Tryd.func44 ?_
  simp only [go_sem]
  iterate 5 ((try (refine drvZ Tryd.func44 ?_;simp only [go_sem]));((with_reducible and_intros)<;>try exact sd);(try first | refine XK.p hsh ok54 ?_ | refine XK.gp hsh ok54 ?_ | refine XK.p hfi ok55 ?_ | refine XK.gp hfi ok55 ?_))
  refine Go.loopQ (fun i : Nat => [(2, .c (.ptr 0 0)), (5, DS (shp op)), (12, .c (.isl 1 [[I64 a], [I64 b], [I64 c'], [I64 d]])), (13, DI .i64 4), (14, DI .i64 i)]) (fun _ => [(0, some [isI c.vars, isI c.arrays, .isl 5 (c.list.map inX)])])
    4096 (fun i=>i≤4) (fun i=>4 - i) ?_ 0 some [] _ (by omega) ?_
  · intro i hi again
    rcases Nat.lt_or_ge i 4 with hlt | hge
    · have hx:[[I64 a],[I64 b],[I64 c'],[I64 d]][i]? = some [I64 ([a,b,c',d].getD i 0)]:=by
        have:i=0∨i=1∨i=2∨i=3:=by omega
        rcases this with rfl | rfl | rfl | rfl<;>rfl
      have hc:=hf _ (kinds_le op i) _ (hq i hlt)
      have hat:=shp_at op i hlt
      have hlt':(i:Int)<4:=by omega
      generalize [a,b,c',d].getD i 0=n at *
      generalize (kindsOf op).getD i 0=k at *
      generalize [[I64 a],[I64 b],[I64 c'],[I64 d]]=fl at *
      generalize shp op=sp at *
      refine drvL Tryd.func44 ?_
      simp only [go_sem,hlt']
      iterate 5 ((try (refine drvZ Tryd.func44 ?_;simp only [go_sem,hx,hlt',hat,hsz,hse]));((with_reducible and_intros)<;>try exact sd);(try first | refine XK.p hc ok56 ?_ | refine XK.gp hc ok56 ?_))
      refine again (i+1) some [] _ (by omega) (by omega) ?_
      simp only [go_sem,TmOK,DM,DMs,CM,CMs,forall_eq,exists_eq_left,Mq,HpOK,LowOK]
      try simp
    · obtain rfl:i=4:=by omega
      have h44:(((4:Nat):Int)<4)=False:=eq_false (by decide)
      refine drvL Tryd.func44 ?_
      simp only [go_sem,h44]
      iterate 3 ((try (refine drvZ Tryd.func44 ?_;simp only [go_sem,h44]));((with_reducible and_intros)<;>try exact sd))
      exact RetOb.plain (d:=DB true) ⟨rfl,rfl⟩ rfl
  · simp only [go_sem,TmOK,DM,DMs,CM,CMs,forall_eq,exists_eq_left,Mq,HpOK,LowOK]
    simp
    exact fun a _=>rfl
open CtL (In Cd kindsOf topOf fOK inOK endOK codeOK atC halt)
theorem cvFn (c : Cd) (h1 : c.vars.length ≤ mx) (h2 : c.arrays.length ≤ mx) (h3 : c.list.length ≤ mx) (x : In) (h : inOK c.vars.length c.arrays.length c.list.length x = true) :
    DC Tryd.prog 43 [.agg (inX x),.c (.eptr (cdC c))] [] (fun r h=>r=DB false∧h=[]):=by
  have hio:=instrOkT c h1 h2 h3 x h
  unfold cdC at hio ⊢
  obtain ⟨op,a,b,c',d⟩:=x
  unfold inX at hio ⊢
  refine dcZ Tryd.func43 ?_
  simp only [go_sem]
  iterate 4 ((try (refine drvZ Tryd.func43 ?_;simp only [go_sem]));((with_reducible and_intros)<;>try exact sd);(try first | refine XK.p hio ok44 ?_ | refine XK.gp hio ok44 ?_))
  exact RetOb.plain (d:=DB false) ⟨rfl,rfl⟩ rfl
theorem indexFuncN (cc : List C) (xs : List In) (hl : xs.length ≤ mx) (hg : ∀ x ∈ xs, DC Tryd.prog 43 [.agg (inX x), .c (.eptr cc)] [] (fun r h => r = DB false ∧ h = [])) :
    DC Tryd.prog 53 [.c (.isl 5 (xs.map inX)),.c (.clo 43 [.eptr cc])] [] (fun d h=>d=DI .i64 (-1)∧h=[]):=by
  have hmx:=mx_eq
  refine dcZ Tryd.func53 ?_
  simp only [go_sem]
  ((try (refine drvZ Tryd.func53 ?_;simp only [go_sem]));((with_reducible and_intros)<;>try exact sd))
  refine Go.loopQ (fun i:Nat=>[(0,.c (.isl 5 (xs.map inX))),(1,.c (.clo 43 [.eptr cc])),(7,DI .i64 xs.length),(8,DI .i64 i)]) (fun _=>[]) 1024 (fun i=>i≤xs.length) (fun i=>xs.length - i) ?_ 0 some [] _ (Nat.zero_le _) ?_
  · intro i hi again
    rcases Nat.lt_or_ge i xs.length with hlt | hge
    · obtain ⟨⟨op,a,b,c,d⟩,hx⟩:∃ x,xs[i]? = some x:=⟨xs[i],by simp [hlt]⟩
      have hgx:=hg _ (List.mem_of_getElem? hx)
      simp only [inX] at hgx
      refine drvL Tryd.func53 ?_
      simp only [go_sem,hx,hlt,inX]
      iterate 5 ((try (refine drvZ Tryd.func53 ?_;simp only [go_sem,hx,hlt,inX]));((with_reducible and_intros)<;>try exact sd);(try first | refine XK.p hgx ok43 ?_ | refine XK.gp hgx ok43 ?_))
      refine again (i+1) some [] _ hlt (by omega) ?_
      simp only [go_sem,TmOK,DM,DMs,CM,CMs,forall_eq,exists_eq_left,Mq,HpOK,LowOK]
      first | done | (simp;done) | (simp;exact CM.kf rfl) | exact CM.kf rfl
    · have hn:¬ i<xs.length:=by omega
      refine drvL Tryd.func53 ?_
      simp only [go_sem,hn]
      iterate 3 ((try (refine drvZ Tryd.func53 ?_;simp only [go_sem,hn]));((with_reducible and_intros)<;>try exact sd))
      exact RetOb.plain (d:=DI .i64 (-1)) ⟨rfl,rfl⟩ rfl
  · simp only [go_sem,TmOK,DM,DMs,CM,CMs,forall_eq,exists_eq_left,Mq,HpOK,LowOK]
    first | done | (simp;done) | (simp;exact CM.kf rfl) | exact CM.kf rfl
theorem containsFuncN (cc : List C) (xs : List In) (hl : xs.length ≤ mx) (hg : ∀ x ∈ xs, DC Tryd.prog 43 [.agg (inX x), .c (.eptr cc)] [] (fun r h => r = DB false ∧ h = [])) :
    DC Tryd.prog 42 [.c (.isl 5 (xs.map inX)),.c (.clo 43 [.eptr cc])] [] (fun d h=>d=DB false∧h=[]):=by
  have hif:=indexFuncN cc xs hl hg
  refine dcZ Tryd.func42 ?_
  simp only [go_sem]
  iterate 3 ((try (refine drvZ Tryd.func42 ?_;simp only [go_sem,Int.reduceLE]));((with_reducible and_intros)<;>try exact sd);(try first | refine XK.p hif ok53 ?_ | refine XK.gp hif ok53 ?_))
  exact RetOb.plain (d:=DB false) ⟨rfl,rfl⟩ rfl
theorem codeValidT (c:Cd) (h1:c.vars.length≤mx) (h2:c.arrays.length≤mx) (h3:c.list.length≤mx) (h:codeOK c=true):DC Tryd.prog 20 [.agg (cdC c)] [] (fun r h=>r=DB true∧h=[]):=by
  have hmx:=mx_eq
  have hfn:=fun x hx=>cvFn c h1 h2 h3 x hx
  obtain ⟨vs,ar,l⟩:=c
  simp only [codeOK,Bool.and_eq_true,decide_eq_true_eq,List.all_eq_true] at h
  obtain ⟨⟨⟨⟨hh,hl1⟩,hl2⟩,hall⟩,hend⟩:=h
  simp only at h1 h2 h3 hfn
  have hcf:=containsFuncN (cdC ⟨vs,ar,l⟩) l h3 fun x hx=>hfn x (hall x hx)
  have hde:=declared vs ar h1 h2
  rw [hh] at hde
  have hw:=CtR.within l.length 1 400
  rw [decide_eq_true hl1,decide_eq_true hl2] at hw
  obtain ⟨x,hx⟩:∃ x,l[l.length - 1]? = some x:=⟨l[l.length - 1]'(by omega),by simp⟩
  have hat:atC l (l.length - 1)=x:=by simp [atC,List.getD,hx]
  simp only [endOK,hat,Bool.or_eq_true,beq_iff_eq] at hend
  have hpos:((l.length:Int) - 1).toNat=l.length - 1:=by omega
  obtain ⟨op,xa,xb,xc,xd⟩:=x
  simp only at hend
  unfold cdC at hcf ⊢
  refine dcZ Tryd.func20 ?_
  simp only [go_sem]
  iterate 6 ((try (refine drvZ Tryd.func20 ?_;simp only [go_sem,List.length_map]));((with_reducible and_intros)<;>try exact sd);(try first | refine XK.p hde ok40 ?_ | refine XK.gp hde ok40 ?_ | refine XK.p hw ok41 ?_ | refine XK.gp hw ok41 ?_))
  refine XK.subQ (r := some) (fz := [0]) (tl := [(1, .c (.eptr [isI vs, isI ar, .isl 5 (l.map inX)])), (2, DB false), (17, DB false), (19, .when true (.c (.isl 5 (l.map inX)))), (20, .when true (.c (.clo 43 [.eptr [isI vs, isI ar, .isl 5 (l.map inX)]])))])
    (hl:=[]) ?_ ?_
  · simp only [go_sem,TmOK,DM,DMs,CM,CMs,forall_eq,exists_eq_left,Mq,HpOK,LowOK]
    simp
  have hget:(l.map inX)[l.length - 1]? = some (inX ⟨op,xa,xb,xc,xd⟩):=by rw [List.getElem?_map,hx];rfl
  rcases hend with rfl | rfl
  · iterate 9 ((try (refine drvZ Tryd.func20 ?_;simp only [go_sem,List.length_map,hpos,hget,inX]));((with_reducible and_intros)<;>try exact sd);(try first | refine XK.p hcf ok42 ?_ | refine XK.gp hcf ok42 ?_))
    exact RetOb.plain (d:=DB true) ⟨rfl,rfl⟩ rfl
  · iterate 9 ((try (refine drvZ Tryd.func20 ?_;simp only [go_sem,List.length_map,hpos,hget,inX]));((with_reducible and_intros)<;>try exact sd);(try first | refine XK.p hcf ok42 ?_ | refine XK.gp hcf ok42 ?_))
    exact RetOb.plain (d:=DB true) ⟨rfl,rfl⟩ rfl
open CtL (In Cd codeOK)
open CtL (In Cd codeOK)
open CtL (In Cd kindsOf topOf fOK inOK endOK codeOK)
theorem set_I (l:List Int) (i:Nat) (x:Int):(l.map I64).set i (.v (.int .i64 x))=(l.set i x).map I64:=(List.map_set).symm
end Go.Proofs.YtoakidkcppinpaaDoor.CtD
namespace Go.Proofs.YtoakidkcppinpaaDoor.CtL
variable [Go.CT.Yn]
open Go Go.CT CtF CtR
end Go.Proofs.YtoakidkcppinpaaDoor.CtL
namespace Go.Proofs.YtoakidkcppinpaaDoor.CtD
open Go Go.CT CtF CtR
variable [Yn]
open CtL (In Cd kindsOf topOf fOK inOK endOK codeOK atC halt)
def slt (k:Nat):UInt8:=if k=1 then 114 else if k=2 then 99 else if k=3 then 118 else if k=4 then 97 else if k=5 then 111 else 116
def sls (op:Int):ByteArray:=⟨(((kindsOf op).filter (fun k => !(k == 0))).map slt).toArray⟩
theorem l6FieldsS (op:Int) (h:1≤op∧op≤13):DC Tryd.prog 36 [DI .i64 op] [] (fun r h=>r=DS (sls op)∧h=[]):=by
  have hmx:=mx_eq
  have key:op=1∨op=2∨op=3∨op=4∨op=5∨op=6∨op=7∨op=8∨op=9∨op=10∨op=11∨op=12∨op=13:=by omega
  rcases key with rfl | rfl | rfl | rfl | rfl | rfl | rfl | rfl | rfl | rfl | rfl | rfl | rfl
  all_goals
    refine dcZ Tryd.func36 ?_
    simp only [go_sem]
    iterate 4 ((try (refine drvZ Tryd.func36 ?_;simp only [go_sem,Int.reduceLE,Int.reduceSub,Int.reduceToNat]));((with_reducible and_intros)<;>try exact sd))
    exact RetOb.plain (d:=DS _) ⟨rfl,rfl⟩ rfl
theorem sls_len (op:Int) (i:Nat) (h:i<4):(i<(sls op).size) ↔ (kindsOf op).getD i 0 ≠ 0:=by
  have hi:i=0∨i=1∨i=2∨i=3:=by omega
  unfold sls kindsOf
  repeat' split
  all_goals rcases hi with rfl | rfl | rfl | rfl<;>decide
theorem kinds_len (op:Int):(kindsOf op).length=4:=by
  unfold kindsOf
  repeat' split
  all_goals rfl
theorem filt_at : ∀ (l : List Nat) (i : Nat), (∀ j k : Nat, j < k → l.getD k 0 ≠ 0 → l.getD j 0 ≠ 0) → l.getD i 0 ≠ 0 → ((l.filter (fun k => !(k == 0))).map slt)[i]? = some (slt (l.getD i 0))
  | [],i,_,h=>by simp at h
  | a :: r,i,hp,h=>by
    have ha:a ≠ 0:=by
      match i,h with
      | 0,h=>simpa using h
      | i+1,h=>have:=hp 0 (i+1) (by omega) h;simpa using this
    have hf:(a :: r).filter (fun k => !(k == 0))=a :: r.filter (fun k => !(k == 0)):=by simp [ha]
    rw [hf]
    match i,h with
    | 0,h=>simp
    | i+1,h =>
      have ih:=filt_at r i (fun j k hj hk=>by have:=hp (j+1) (k+1) (by omega) (by simpa using hk);simpa using this) (by simpa using h)
      simpa using ih
theorem kinds_pre (op:Int):∀ j k:Nat,j<k→(kindsOf op).getD k 0 ≠ 0→(kindsOf op).getD j 0 ≠ 0:=fun j k hj hk=>by
  have h4:k<4:=by
    rcases Nat.lt_or_ge k 4 with h4 | h4
    · exact h4
    · exfalso
      apply hk
      rw [List.getD_eq_getElem?_getD,List.getElem?_eq_none (by rw [kinds_len];exact h4)];rfl
  have hk':k=1∨k=2∨k=3:=by omega
  have hj':j=0∨j=1∨j=2:=by omega
  revert hk
  unfold kindsOf
  repeat' split
  all_goals (rcases hk' with rfl | rfl | rfl<;>rcases hj' with rfl | rfl | rfl<;>first | omega | decide)
theorem sls_at (op:Int) (i:Nat) (h:(kindsOf op).getD i 0 ≠ 0):(sls op).data.toList.getD i 0=slt ((kindsOf op).getD i 0):=by
  have:=filt_at (kindsOf op) i (kinds_pre op) h
  unfold sls
  rw [List.getD_eq_getElem?_getD]
  simp only
  rw [this];rfl
theorem put_at : ∀ (ds A B : List C), ds.length ≤ B.length → putCells (A ++ B) A.length ds = A ++ ds ++ B.drop ds.length
  | [],A,B,_=>by simp [putCells]
  | d :: r,A,[],h=>by simp at h
  | d :: r,A,b :: B,h=>by
    have e:(A++b :: B).set A.length d=(A++[d])++B:=by
      rw [List.set_append_right _ _ (Nat.le_refl _)];simp
    have ih:=put_at r (A++[d]) B (by simpa using h)
    simp only [putCells,e]
    rw [show A.length+1=(A++[d]).length by simp,ih]
    simp
open CtL (In Cd kindsOf topOf fOK inOK endOK codeOK atC halt)
theorem shapeI0 (op:Int) (h:op<1∨13<op):DC Tryd.prog 54 [DI .i64 op] [] (fun r h=>r=DS ByteArray.empty∧h=[]):=by
  have hmx:=mx_eq
  have hw:=CtR.within op 1 13
  have hf:(decide (1≤op) && decide (op≤13))=false:=by rw [Bool.and_eq_false_iff];simp;omega
  rw [hf] at hw
  refine dcZ Tryd.func54 ?_
  simp only [go_sem]
  iterate 4 ((try (refine drvZ Tryd.func54 ?_;simp only [go_sem]));((with_reducible and_intros)<;>try exact sd);(try first | refine XK.p hw ok41 ?_ | refine XK.gp hw ok41 ?_))
  exact RetOb.plain (d:=DS _) ⟨rfl,rfl⟩ rfl
theorem fieldOkG (c : Cd) (h1 : c.vars.length ≤ mx) (h2 : c.arrays.length ≤ mx) (h3 : c.list.length ≤ mx) (k : Nat) (hk : k ≤ 6) (n : Int) :
    DC Tryd.prog 56 [.agg (cdC c),.c (.v (.int .u8 (ltr k).toNat)),DI .i64 n] [] (fun r h=>r=DB (fOK c.vars.length c.arrays.length c.list.length k n)∧h=[]):=by
  have hmx:=mx_eq
  have hw:=fun hi=>CtR.within n 0 hi
  have hw4:=CtR.within n 4 10
  obtain ⟨vs,ar,ls⟩:=c
  simp only at h1 h2 h3
  have ret:∀ (b:Bool) (hp:Hp),b=fOK vs.length ar.length ls.length k n→RetOb 0 (fun r h=>r=DB (fOK vs.length ar.length ls.length k n)∧h=[]) (DB b) hp:=fun b hp h=>RetOb.plain (d:=DB _) ⟨by rw [h],rfl⟩ rfl
  generalize hR:(fun (r:D) (h:List (Option (List C)))=>r=DB (fOK vs.length ar.length ls.length k n)∧h=[])=R at ret ⊢
  clear hR
  have key:k=0∨k=1∨k=2∨k=3∨k=4∨k=5∨k=6:=by omega
  unfold cdC
  rcases key with rfl | rfl | rfl | rfl | rfl | rfl | rfl
  · rw [show (((ltr 0).toNat:Nat):Int)=45 from rfl]
    refine dcZ Tryd.func56 ?_
    simp only [go_sem]
    iterate 9 ((try (refine drvZ Tryd.func56 ?_;simp only [go_sem]));((with_reducible and_intros)<;>try exact sd))
    refine ret _ _ ?_
    rw [Bool.eq_iff_iff];simp [fOK,topOf];omega
  · rw [show (((ltr 1).toNat:Nat):Int)=114 from rfl]
    have hw:=hw (13)
    generalize hB:(decide (0≤n) && decide (n≤13))=B at hw
    refine dcZ Tryd.func56 ?_
    simp only [go_sem]
    iterate 10 ((try (refine drvZ Tryd.func56 ?_;simp only [go_sem,Int.reduceLE,List.length_map]));((with_reducible and_intros)<;>try exact sd);(try first | refine XK.p hw ok41 ?_ | refine XK.gp hw ok41 ?_))
    exact ret _ _ (by rw [← hB];simp [fOK,topOf])
  · rw [show (((ltr 2).toNat:Nat):Int)=110 from rfl]
    have hw:=hw (255)
    generalize hB:(decide (0≤n) && decide (n≤255))=B at hw
    refine dcZ Tryd.func56 ?_
    simp only [go_sem]
    iterate 10 ((try (refine drvZ Tryd.func56 ?_;simp only [go_sem,Int.reduceLE,List.length_map]));((with_reducible and_intros)<;>try exact sd);(try first | refine XK.p hw ok41 ?_ | refine XK.gp hw ok41 ?_))
    exact ret _ _ (by rw [← hB];simp [fOK,topOf])
  · rw [show (((ltr 3).toNat:Nat):Int)=118 from rfl]
    have hw:=hw ((vs.length:Int) - 1)
    generalize hB:(decide (0≤n) && decide (n≤(vs.length:Int) - 1))=B at hw
    refine dcZ Tryd.func56 ?_
    simp only [go_sem]
    iterate 10 ((try (refine drvZ Tryd.func56 ?_;simp only [go_sem,Int.reduceLE,List.length_map]));((with_reducible and_intros)<;>try exact sd);(try first | refine XK.p hw ok41 ?_ | refine XK.gp hw ok41 ?_))
    exact ret _ _ (by rw [← hB];simp [fOK,topOf])
  · rw [show (((ltr 4).toNat:Nat):Int)=97 from rfl]
    have hw:=hw ((ar.length:Int) - 1)
    generalize hB:(decide (0≤n) && decide (n≤(ar.length:Int) - 1))=B at hw
    refine dcZ Tryd.func56 ?_
    simp only [go_sem]
    iterate 10 ((try (refine drvZ Tryd.func56 ?_;simp only [go_sem,Int.reduceLE,List.length_map]));((with_reducible and_intros)<;>try exact sd);(try first | refine XK.p hw ok41 ?_ | refine XK.gp hw ok41 ?_))
    exact ret _ _ (by rw [← hB];simp [fOK,topOf])
  · rw [show (((ltr 5).toNat:Nat):Int)=111 from rfl]
    have hw:=hw4
    generalize hB:(decide (4≤n) && decide (n≤10))=B at hw
    refine dcZ Tryd.func56 ?_
    simp only [go_sem]
    iterate 10 ((try (refine drvZ Tryd.func56 ?_;simp only [go_sem,Int.reduceLE,List.length_map]));((with_reducible and_intros)<;>try exact sd);(try first | refine XK.p hw ok41 ?_ | refine XK.gp hw ok41 ?_))
    exact ret _ _ (by rw [← hB];simp [fOK,topOf])
  · rw [show (((ltr 6).toNat:Nat):Int)=105 from rfl]
    have hw:=hw ((ls.length:Int) - 1)
    generalize hB:(decide (0≤n) && decide (n≤(ls.length:Int) - 1))=B at hw
    refine dcZ Tryd.func56 ?_
    simp only [go_sem]
    iterate 10 ((try (refine drvZ Tryd.func56 ?_;simp only [go_sem,Int.reduceLE,List.length_map]));((with_reducible and_intros)<;>try exact sd);(try first | refine XK.p hw ok41 ?_ | refine XK.gp hw ok41 ?_))
    exact ret _ _ (by rw [← hB];simp [fOK,topOf])
theorem instrOkG (c : Cd) (h1 : c.vars.length ≤ mx) (h2 : c.arrays.length ≤ mx) (h3 : c.list.length ≤ mx) (x : In) :
    DC Tryd.prog 44 [.agg (cdC c),.agg (inX x)] [] (fun r h=>r=DB (inOK c.vars.length c.arrays.length c.list.length x)∧h=[]):=by
  have hmx:=mx_eq
  have hf:=fun k hk n=>fieldOkG c h1 h2 h3 k hk n
  have hfi:=fieldsI x
  have ret:∀ (b:Bool) (hp:Hp),b=inOK c.vars.length c.arrays.length c.list.length x→RetOb 0 (fun r h=>r=DB (inOK c.vars.length c.arrays.length c.list.length x)∧h=[]) (DB b) hp:=fun b hp h=>RetOb.plain (d:=DB _) ⟨by rw [h],rfl⟩ rfl
  generalize hR:(fun (r:D) (h:List (Option (List C)))=>r=DB (inOK c.vars.length c.arrays.length c.list.length x)∧h=[])=R at ret ⊢
  clear hR
  obtain ⟨op,a,b,c',d⟩:=x
  have hcx:cdC c=[isI c.vars,isI c.arrays,.isl 5 (c.list.map inX)]:=rfl
  have hlx:inX ⟨op,a,b,c',d⟩=[I64 op,I64 a,I64 b,I64 c',I64 d]:=rfl
  rw [hlx] at hfi ⊢
  simp only [hcx] at hf ⊢
  simp only at hfi
  generalize hLI:c.list.map inX=LI at *
  by_cases ho:op<1∨13<op
  · have hsh:=shapeI0 op ho
    have hret:false=inOK c.vars.length c.arrays.length c.list.length ⟨op,a,b,c',d⟩:=by
      have hf0:(decide (1≤op) && decide (op≤13))=false:=by rw [Bool.and_eq_false_iff];simp;omega
      simp [inOK,hf0]
    have ret:=fun hp=>ret false hp hret
    have hse:(ByteArray.empty.toList == (ByteArray.toList { data:=#[] }))=true:=by simp [toList_nil]
    have hx0:([[I64 a],[I64 b],[I64 c'],[I64 d]]:List (List C))[0]? = some [I64 a]:=rfl
    refine dcZ Tryd.func44 ?_
    simp only [go_sem]
    iterate 5 ((try (refine drvZ Tryd.func44 ?_;simp only [go_sem]));((with_reducible and_intros)<;>try exact sd);(try first | refine XK.p hsh ok54 ?_ | refine XK.gp hsh ok54 ?_ | refine XK.p hfi ok55 ?_ | refine XK.gp hfi ok55 ?_))
    refine Go.loop ?_
    refine drvL Tryd.func44 ?_
    simp only [go_sem,hx0,hse]
    iterate 6 ((try (refine drvZ Tryd.func44 ?_;simp only [go_sem,hx0,hse]));((with_reducible and_intros)<;>try exact sd);(try first | refine XK.gs (DB false) ?_))
    exact ret _
  have o1:1≤op:=by omega
  have o2:op≤13:=by omega
  have hsh:=shapeI op ⟨o1,o2⟩
  have hin:inOK c.vars.length c.arrays.length c.list.length ⟨op,a,b,c',d⟩=(fOK c.vars.length c.arrays.length c.list.length ((kindsOf op).getD 0 0) a && fOK c.vars.length c.arrays.length c.list.length ((kindsOf op).getD 1 0) b && fOK c.vars.length c.arrays.length c.list.length ((kindsOf op).getD 2 0) c' && fOK c.vars.length c.arrays.length c.list.length ((kindsOf op).getD 3 0) d):=by
    unfold inOK
    rw [show decide (1≤op)=true by simp;omega,show decide (op≤13)=true by simp;omega]
    rfl
  rw [hin] at ret
  have retF:∀ (i:Nat) (hp:Hp),i<4→fOK c.vars.length c.arrays.length c.list.length ((kindsOf op).getD i 0) ([a,b,c',d].getD i 0)=false→RetOb 0 R (DB false) hp:=fun i hp hi h=>by
    refine ret _ _ ?_
    have:i=0∨i=1∨i=2∨i=3:=by omega
    rcases this with rfl | rfl | rfl | rfl
    · rw [show fOK c.vars.length c.arrays.length c.list.length ((kindsOf op).getD 0 0) a=false from h];simp only [Bool.and_false,Bool.false_and]
    · rw [show fOK c.vars.length c.arrays.length c.list.length ((kindsOf op).getD 1 0) b=false from h];simp only [Bool.and_false,Bool.false_and]
    · rw [show fOK c.vars.length c.arrays.length c.list.length ((kindsOf op).getD 2 0) c'=false from h];simp only [Bool.and_false,Bool.false_and]
    · rw [show fOK c.vars.length c.arrays.length c.list.length ((kindsOf op).getD 3 0) d=false from h];simp only [Bool.and_false]
  have retT:∀ (hp:Hp),(∀ i:Nat,i<4→fOK c.vars.length c.arrays.length c.list.length ((kindsOf op).getD i 0) ([a,b,c',d].getD i 0)=true)→RetOb 0 R (DB true) hp:=fun hp h=>by
    refine ret _ _ ?_
    rw [show fOK c.vars.length c.arrays.length c.list.length ((kindsOf op).getD 0 0) a=true from h 0 (by omega),show fOK c.vars.length c.arrays.length c.list.length ((kindsOf op).getD 1 0) b=true from h 1 (by omega),show fOK c.vars.length c.arrays.length c.list.length ((kindsOf op).getD 2 0) c'=true from h 2 (by omega),show fOK c.vars.length c.arrays.length c.list.length ((kindsOf op).getD 3 0) d=true from h 3 (by omega)];rfl
  clear ret hin
  have hsz:(shp op).size=4:=rfl
  have hse:((shp op).toList == (ByteArray.toList { data:=#[] }))=false:=shp_ne op ⟨o1,o2⟩
  refine dcZ Tryd.func44 ?_
  simp only [go_sem]
  iterate 5 ((try (refine drvZ Tryd.func44 ?_;simp only [go_sem]));((with_reducible and_intros)<;>try exact sd);(try first | refine XK.p hsh ok54 ?_ | refine XK.gp hsh ok54 ?_ | refine XK.p hfi ok55 ?_ | refine XK.gp hfi ok55 ?_))
  refine Go.loopQ (fun i : Nat => [(2, .c (.ptr 0 0)), (5, DS (shp op)), (12, .c (.isl 1 [[I64 a], [I64 b], [I64 c'], [I64 d]])), (13, DI .i64 4), (14, DI .i64 i)]) (fun _ => [(0, some [isI c.vars, isI c.arrays, .isl 5 LI])])
    4096 (fun i=>i≤4∧∀ j:Nat,j<i→fOK c.vars.length c.arrays.length c.list.length ((kindsOf op).getD j 0) ([a,b,c',d].getD j 0)=true) (fun i=>4 - i) ?_ 0 some [] _ ⟨by omega,fun j hj=>by omega⟩ ?_
  · rintro i ⟨hi,hI⟩ again
    rcases Nat.lt_or_ge i 4 with hlt | hge
    · have hx:[[I64 a],[I64 b],[I64 c'],[I64 d]][i]? = some [I64 ([a,b,c',d].getD i 0)]:=by
        have:i=0∨i=1∨i=2∨i=3:=by omega
        rcases this with rfl | rfl | rfl | rfl<;>rfl
      have hc:=hf _ (kinds_le op i) ([a,b,c',d].getD i 0)
      have hat:=shp_at op i hlt
      have hlt':(i:Int)<4:=by omega
      have retF:=fun hp=>retF i hp hlt
      have hst:∀ q:fOK c.vars.length c.arrays.length c.list.length ((kindsOf op).getD i 0) ([a,b,c',d].getD i 0)=true,i+1≤4∧∀ j:Nat,j<i+1→fOK c.vars.length c.arrays.length c.list.length ((kindsOf op).getD j 0) ([a,b,c',d].getD j 0)=true:=fun q=>⟨hlt,fun j hj=>by
        by_cases e:j=i
        · subst e;exact q
        · exact hI j (by omega)⟩
      generalize [a,b,c',d].getD i 0=n at *
      generalize (kindsOf op).getD i 0=k at *
      generalize [[I64 a],[I64 b],[I64 c'],[I64 d]]=fl at *
      generalize shp op=sp at *
      cases hq:fOK c.vars.length c.arrays.length c.list.length k n with
      | true =>
        rw [hq] at hc
        have hs:=hst hq
        refine drvL Tryd.func44 ?_
        simp only [go_sem,hlt']
        iterate 5 ((try (refine drvZ Tryd.func44 ?_;simp only [go_sem,hx,hlt',hat,hsz,hse]));((with_reducible and_intros)<;>try exact sd);(try first | refine XK.p hc ok56 ?_ | refine XK.gp hc ok56 ?_))
        refine again (i+1) some [] _ hs (by omega) ?_
        simp only [go_sem,TmOK,DM,DMs,CM,CMs,forall_eq,exists_eq_left,Mq,HpOK,LowOK]
        try simp
      | false =>
        rw [hq] at hc
        refine drvL Tryd.func44 ?_
        simp only [go_sem,hlt']
        iterate 5 ((try (refine drvZ Tryd.func44 ?_;simp only [go_sem,hx,hlt',hat,hsz,hse]));((with_reducible and_intros)<;>try exact sd);(try first | refine XK.p hc ok56 ?_ | refine XK.gp hc ok56 ?_))
        exact retF _ hq
    · obtain rfl:i=4:=by omega
      have h44:(((4:Nat):Int)<4)=False:=eq_false (by decide)
      refine drvL Tryd.func44 ?_
      simp only [go_sem,h44]
      iterate 3 ((try (refine drvZ Tryd.func44 ?_;simp only [go_sem,h44]));((with_reducible and_intros)<;>try exact sd))
      exact retT _ hI
  · simp only [go_sem,TmOK,DM,DMs,CM,CMs,forall_eq,exists_eq_left,Mq,HpOK,LowOK]
    simp
    try exact fun a _=>rfl
open CtL (In Cd kindsOf topOf fOK inOK endOK codeOK atC halt)
theorem cvFnG (c : Cd) (h1 : c.vars.length ≤ mx) (h2 : c.arrays.length ≤ mx) (h3 : c.list.length ≤ mx) (x : In) :
    DC Tryd.prog 43 [.agg (inX x),.c (.eptr (cdC c))] [] (fun r h=>r=DB (!inOK c.vars.length c.arrays.length c.list.length x)∧h=[]):=by
  have hio:=instrOkG c h1 h2 h3 x
  generalize inOK c.vars.length c.arrays.length c.list.length x=B at *
  unfold cdC at hio ⊢
  obtain ⟨op,a,b,c',d⟩:=x
  unfold inX at hio ⊢
  refine dcZ Tryd.func43 ?_
  simp only [go_sem]
  iterate 4 ((try (refine drvZ Tryd.func43 ?_;simp only [go_sem]));((with_reducible and_intros)<;>try exact sd);(try first | refine XK.p hio ok44 ?_ | refine XK.gp hio ok44 ?_))
  exact RetOb.plain (d:=DB (!B)) ⟨rfl,rfl⟩ rfl
def ixB (p : In → Bool) : List In → Int → Int
  | [],_ => -1
  | x :: r,n=>if p x then ixB p r (n+1) else n
theorem ixB_all (p : In → Bool) : ∀ (l : List In) (n : Int), 0 ≤ n → decide (0 ≤ ixB p l n) = !l.all p
  | [],n,h=>rfl
  | x :: r,n,h=>by
    cases hx:p x with
    | true=>simp only [ixB,hx,if_true,List.all_cons,Bool.true_and];exact ixB_all p r (n+1) (by omega)
    | false=>simp [ixB,hx,h]
theorem indexFuncG (cc : List C) (p : In → Bool) (xs : List In) (hl : xs.length ≤ mx) (hg : ∀ x, DC Tryd.prog 43 [.agg (inX x), .c (.eptr cc)] [] (fun r h => r = DB (!p x) ∧ h = [])) :
    DC Tryd.prog 53 [.c (.isl 5 (xs.map inX)),.c (.clo 43 [.eptr cc])] [] (fun d h=>d=DI .i64 (ixB p xs 0)∧h=[]):=by
  have hmx:=mx_eq
  have ret:∀ (v:Int) (hp:Hp),v=ixB p xs 0→RetOb 0 (fun d h=>d=DI .i64 (ixB p xs 0)∧h=[]) (DI .i64 v) hp:=fun v hp h=>RetOb.plain (d:=DI .i64 _) ⟨by rw [h],rfl⟩ rfl
  generalize hR:(fun (d:D) (h:List (Option (List C)))=>d=DI .i64 (ixB p xs 0)∧h=[])=R at ret ⊢
  clear hR
  refine dcZ Tryd.func53 ?_
  simp only [go_sem]
  ((try (refine drvZ Tryd.func53 ?_;simp only [go_sem]));((with_reducible and_intros)<;>try exact sd))
  refine Go.loopQ (fun i:Nat=>[(0,.c (.isl 5 (xs.map inX))),(1,.c (.clo 43 [.eptr cc])),(7,DI .i64 xs.length),(8,DI .i64 i)]) (fun _=>[]) 1024 (fun i=>i≤xs.length∧ixB p (xs.drop i) i=ixB p xs 0) (fun i=>xs.length - i) ?_ 0 some [] _ ⟨Nat.zero_le _,rfl⟩ ?_
  · rintro i ⟨hi,hI⟩ again
    rcases Nat.lt_or_ge i xs.length with hlt | hge
    · obtain ⟨x,hx⟩:∃ x,xs[i]? = some x:=⟨xs[i],by simp [hlt]⟩
      have hgx:=hg x
      rw [List.drop_eq_getElem_cons hlt,(List.getElem?_eq_some_iff.1 hx).2] at hI
      cases hpx:p x with
      | true =>
        rw [hpx] at hgx
        simp only [ixB,hpx,if_true] at hI
        obtain ⟨op,a,b,c,d⟩:=x
        simp only [inX] at hgx
        refine drvL Tryd.func53 ?_
        simp only [go_sem,hx,hlt,inX]
        iterate 5 ((try (refine drvZ Tryd.func53 ?_;simp only [go_sem,hx,hlt,inX]));((with_reducible and_intros)<;>try exact sd);(try first | refine XK.p hgx ok43 ?_ | refine XK.gp hgx ok43 ?_))
        refine again (i+1) some [] _ ⟨hlt,by rw [← hI];rfl⟩ (by omega) ?_
        simp only [go_sem,TmOK,DM,DMs,CM,CMs,forall_eq,exists_eq_left,Mq,HpOK,LowOK]
        first | done | (simp;done) | (simp;exact CM.kf rfl) | exact CM.kf rfl
      | false =>
        rw [hpx] at hgx
        simp only [ixB,hpx] at hI
        obtain ⟨op,a,b,c,d⟩:=x
        simp only [inX] at hgx
        refine drvL Tryd.func53 ?_
        simp only [go_sem,hx,hlt,inX]
        iterate 5 ((try (refine drvZ Tryd.func53 ?_;simp only [go_sem,hx,hlt,inX]));((with_reducible and_intros)<;>try exact sd);(try first | refine XK.p hgx ok43 ?_ | refine XK.gp hgx ok43 ?_))
        exact ret _ _ (by rw [← hI];rfl)
    · have hn:¬ i<xs.length:=by omega
      have e1:xs.drop i=[]:=List.drop_of_length_le (by omega)
      refine drvL Tryd.func53 ?_
      simp only [go_sem,hn]
      iterate 3 ((try (refine drvZ Tryd.func53 ?_;simp only [go_sem,hn]));((with_reducible and_intros)<;>try exact sd))
      exact ret _ _ (by rw [← hI,e1];rfl)
  · simp only [go_sem,TmOK,DM,DMs,CM,CMs,forall_eq,exists_eq_left,Mq,HpOK,LowOK]
    first | done | (simp;done) | (simp;exact CM.kf rfl) | exact CM.kf rfl
theorem containsFuncG (cc : List C) (p : In → Bool) (xs : List In) (hl : xs.length ≤ mx) (hg : ∀ x, DC Tryd.prog 43 [.agg (inX x), .c (.eptr cc)] [] (fun r h => r = DB (!p x) ∧ h = [])) :
    DC Tryd.prog 42 [.c (.isl 5 (xs.map inX)),.c (.clo 43 [.eptr cc])] [] (fun d h=>d=DB (!xs.all p)∧h=[]):=by
  have hif:=indexFuncG cc p xs hl hg
  have hal:=ixB_all p xs 0 (by omega)
  generalize ixB p xs 0=k at *
  refine dcZ Tryd.func42 ?_
  simp only [go_sem]
  iterate 3 ((try (refine drvZ Tryd.func42 ?_;simp only [go_sem]));((with_reducible and_intros)<;>try exact sd);(try first | refine XK.p hif ok53 ?_ | refine XK.gp hif ok53 ?_))
  exact RetOb.plain (d:=DB _) ⟨by rw [← hal],rfl⟩ rfl
theorem codeValidG0 (c:Cd) (h1:c.vars.length≤2000000) (h2:c.arrays.length≤2000000) (h3:c.list.length≤100000000) (h:codeOK c=false):DC Tryd.prog 20 [.agg (cdC c)] [] (fun r h=>r=DB false∧h=[]):=by
  have hmx:=mx_eq
  have hfn:=fun x=>cvFnG c (by omega) (by omega) (by omega) x
  have ret:∀ hp:Hp,RetOb 0 (fun r h=>r=DB false∧h=[]) (DB false) hp:=fun hp=>RetOb.plain (d:=DB false) ⟨rfl,rfl⟩ rfl
  generalize hR:(fun (r:D) (h:List (Option (List C)))=>r=DB false∧h=[])=R at ret ⊢
  clear hR
  obtain ⟨vs,ar,l⟩:=c
  simp only at h1 h2 h3 hfn
  have hcf:=containsFuncG (cdC ⟨vs,ar,l⟩) (inOK vs.length ar.length l.length) l (by omega) hfn
  have hde:=declared vs ar (by omega) (by omega)
  have hw:=CtR.within l.length 1 400
  unfold codeOK at h
  simp only at h
  unfold cdC at hcf ⊢
  cases hh:headsOK vs ar with
  | false =>
    rw [hh] at hde
    clear hw hcf
    refine dcZ Tryd.func20 ?_
    simp only [go_sem]
    iterate 8 ((try (refine drvZ Tryd.func20 ?_;simp only [go_sem,List.length_map]));((with_reducible and_intros)<;>try exact sd);(try first | refine XK.p hde ok40 ?_ | refine XK.gp hde ok40 ?_ | refine XK.gs (DB false) ?_))
    exact ret _
  | true =>
    rw [hh] at hde h
    simp only [Bool.true_and] at h
    cases hb:(decide (1≤(l.length:Int)) && decide ((l.length:Int)≤400)) with
    | false =>
      rw [hb] at hw
      clear hcf
      refine dcZ Tryd.func20 ?_
      simp only [go_sem]
      iterate 8 ((try (refine drvZ Tryd.func20 ?_;simp only [go_sem,List.length_map]));((with_reducible and_intros)<;>try exact sd);(try first | refine XK.p hde ok40 ?_ | refine XK.gp hde ok40 ?_ | refine XK.p hw ok41 ?_ | refine XK.gp hw ok41 ?_ | refine XK.gs (DB false) ?_))
      exact ret _
    | true =>
      rw [hb] at hw h
      simp only [Bool.true_and] at h
      simp only [Bool.and_eq_true,decide_eq_true_eq] at hb
      obtain ⟨x,hx⟩:∃ x,l[l.length - 1]? = some x:=⟨l[l.length - 1]'(by omega),by simp⟩
      have hat:atC l (l.length - 1)=x:=by simp [atC,List.getD,hx]
      simp only [endOK,hat] at h
      have hpos:((l.length:Int) - 1).toNat=l.length - 1:=by omega
      have hget:(l.map inX)[l.length - 1]? = some (inX x):=by rw [List.getElem?_map,hx];rfl
      generalize hal:l.all (inOK vs.length ar.length l.length)=al at *
      obtain ⟨op,xa,xb,xc,xd⟩:=x
      simp only at h
      refine dcZ Tryd.func20 ?_
      simp only [go_sem]
      iterate 6 ((try (refine drvZ Tryd.func20 ?_;simp only [go_sem,List.length_map]));((with_reducible and_intros)<;>try exact sd);(try first | refine XK.p hde ok40 ?_ | refine XK.gp hde ok40 ?_ | refine XK.p hw ok41 ?_ | refine XK.gp hw ok41 ?_))
      refine XK.subQ (r := some) (fz := [0]) (tl := [(1, .c (.eptr [isI vs, isI ar, .isl 5 (l.map inX)])), (2, DB false), (17, DB false), (19, .when true (.c (.isl 5 (l.map inX)))), (20, .when true (.c (.clo 43 [.eptr [isI vs, isI ar, .isl 5 (l.map inX)]])))])
        (hl:=[]) ?_ ?_
      · simp only [go_sem,TmOK,DM,DMs,CM,CMs,forall_eq,exists_eq_left,Mq,HpOK,LowOK]
        simp
      cases al with
      | false =>
        iterate 9 ((try (refine drvZ Tryd.func20 ?_;simp only [go_sem,List.length_map]));((with_reducible and_intros)<;>try exact sd);(try first | refine XK.p hcf ok42 ?_ | refine XK.gp hcf ok42 ?_))
        exact ret _
      | true =>
        simp only [Bool.true_and,Bool.or_eq_false_iff] at h
        have e1:=h.1
        have e2:=h.2
        iterate 9 ((try (refine drvZ Tryd.func20 ?_;simp only [go_sem,List.length_map,hpos,hget,inX,e1,e2]));((with_reducible and_intros)<;>try exact sd);(try first | refine XK.p hcf ok42 ?_ | refine XK.gp hcf ok42 ?_))
        exact ret _
open CtL (In Cd kindsOf)
theorem sls_size (op:Int):(sls op).size≤4:=by
  unfold sls kindsOf
  repeat' split
  all_goals decide
def rdl2 (bs:List Int) (n k:Nat) (LC:List C) (h:List (Option (List C))):Prop:=∃ n':Nat,n≤n'∧n'≤n+k∧h=[some (rdr bs n'),some LC]
def rnR (bs:List Int) (n:Nat) (LC:List C) (r:D) (h:List (Option (List C))):Prop:=∃ x:In,r = .agg (inX x)∧rdl2 bs n 50 LC h
end Go.Proofs.YtoakidkcppinpaaDoor.CtD
