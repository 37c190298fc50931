/- Contracts of functions of the program, one behind the other, as plain data: what each call returns and which blocks it leaves. -/
import Derived.Test.YtfkhahkclgejnaaGreatDoorHFacts
import Derived.Test.YtfkhahkclgejnaaGreatDoorHXy
import Derived.Test.YtfkhahkclgejnaaGreatDoorHAk
import Derived.Test.YtfkhahkclgejnaaGreatDoorHAj
set_option linter.unusedVariables false
set_option linter.unusedSimpArgs false
set_option linter.unusedSectionVars false
set_option maxHeartbeats 16000000
set_option maxRecDepth 100000
namespace Go.Proofs.YtfkhahkclgejnaaGreatDoor.CtL
variable [Go.CT.Yn]
open Go Go.CT CtF CtR
open Go Go.CT CtF CtR
def kindsOf (op:Int):List Nat :=
  if op=1 then [1,2,0,0] else if op=2 then [1,3,0,0] else if op=3 then [3,1,0,0] else if op=4 then [1,4,1,0] else if op=5 then [4,1,1,0]
  else if op=6 then [1,5,1,1] else if op=7 then [1,1,1,1] else if op=8 then [6,0,0,0] else if op=9 then [1,6,0,0] else if op=10 then [1,6,0,0]
  else if op=11 then [1,0,0,0] else [0,0,0,0]
def topOf (nv na nl:Nat) (k:Nat):Int:=if k=0 then 0 else if k=1 then 13 else if k=2 then 255 else if k=3 then (nv:Int) - 1 else if k=4 then (na:Int) - 1 else if k=5 then 10 else (nl:Int) - 1
def fOK (nv na nl:Nat) (k:Nat) (n:Int):Bool:=decide ((if k=5 then 4 else 0)≤n) && decide (n≤topOf nv na nl k)
def inOK (nv na nl:Nat) (x:In):Bool:=decide (1≤x.op) && decide (x.op≤13) && fOK nv na nl ((kindsOf x.op).getD 0 0) x.a && fOK nv na nl ((kindsOf x.op).getD 1 0) x.b && fOK nv na nl ((kindsOf x.op).getD 2 0) x.c && fOK nv na nl ((kindsOf x.op).getD 3 0) x.d
def endOK (l:List In):Bool:=(atC l (l.length - 1)).op == 13 || (atC l (l.length - 1)).op == 8
def codeOK (c:Cd):Bool:=headsOK c.vars c.arrays && decide (1≤(c.list.length:Int)) && decide ((c.list.length:Int)≤400) && c.list.all (inOK c.vars.length c.arrays.length c.list.length) && endOK c.list
end Go.Proofs.YtfkhahkclgejnaaGreatDoor.CtL
namespace Go.Proofs.YtfkhahkclgejnaaGreatDoor.CtD
open Go Go.CT CtF CtR
variable [Yn]
open CtL (In Cd)
def inX (x:In):List C:=[I64 x.op,I64 x.a,I64 x.b,I64 x.c,I64 x.d]
def inC (l:List In):List C:=(l.map inX).flatten
theorem inC_len (l:List In):(inC l).length=l.length * 5:=by
  unfold inC
  induction l with
  | nil=>rfl
  | cons a r ih=>simp only [List.map_cons,List.flatten_cons,List.length_append,ih,inX,List.length_cons,List.length_nil];omega
theorem inC_app (a b:List In):inC (a++b)=inC a++inC b:=by simp [inC]
theorem inC_one (x:In):inC [x]=inX x:=by simp [inC]
theorem inC_kf (l:List In):∀ c ∈ inC l,kf c=true:=by
  unfold inC
  intro c hc
  obtain ⟨x,hx,hc⟩:=List.mem_flatten.1 hc
  obtain ⟨e,_,rfl⟩:=List.mem_map.1 hx
  simp only [inX,List.mem_cons,List.not_mem_nil,or_false] at hc
  rcases hc with rfl | rfl | rfl | rfl | rfl<;>rfl
theorem renCs_in (r:Nat→Nat) (l:List In):renCs r (inC l)=inC l:=by
  unfold inC
  induction l with
  | nil=>rfl
  | cons a t ih=>simp only [List.map_cons,List.flatten_cons,inX,List.cons_append,List.nil_append,renCs,renC,ih]
theorem CMs_in {hT hS:Hp} {r:Nat→Option Nat} {fz:List Nat} (l:List In):CMs hT r hS fz (inC l) (inC l)=True:=eq_true (CMs.kf (inC_kf l))
open CtL (In Cd)
open CtL (In Cd halt)
def cdC (c:Cd):List C:=[isI c.vars,isI c.arrays,.isl 5 (c.list.map inX)]
theorem in_flat (l:List In):(l.map inX).flatten=inC l:=rfl
theorem in_len5 (l:List In):∀ x ∈ l.map inX,x.length=5:=fun x hx=>by obtain ⟨e,_,rfl⟩:=List.mem_map.1 hx;rfl
theorem in_kf5 (l:List In):∀ x ∈ l.map inX,∀ c ∈ x,kf c=true:=fun x hx c hc=>inC_kf l c (List.mem_flatten.2 ⟨x,hx,hc⟩)
open CtL (In Cd halt)
theorem withFieldsI (op a b c d:Int) (q:List Int):DC Tryz.prog 27 [.agg [I64 op,I64 0,I64 0,I64 0,I64 0],.c (.msl 0 1 0 4)] [some ((a :: b :: c :: d :: q).map I64)] (fun r h=>r = .agg (inX ⟨op,a,b,c,d⟩)∧h=[some ((a :: b :: c :: d :: q).map I64)]):=by
  have hmx:=mx_eq
  refine dcZ Tryz.func27 ?_
  simp only [go_sem]
  iterate 3 ((try (refine drvZ Tryz.func27 ?_;simp only [go_sem,List.map_cons]));((with_reducible and_intros)<;>try exact sd))
  refine RetOb.ofQ some [] (.agg (inX ⟨op,a,b,c,d⟩)) [some ((a :: b :: c :: d :: q).map I64)] ?_ ⟨rfl,rfl⟩ (by simp)
  simp [enumL,hOf,DM,CM,CMs,HpOK,LowOK,upd,inX,hpL,CMs_I]
open CtL (In Cd kindsOf topOf fOK inOK endOK codeOK)
def ltr (k:Nat):UInt8:=if k=0 then 45 else if k=1 then 114 else if k=2 then 110 else if k=3 then 118 else if k=4 then 97 else if k=5 then 111 else 105
def shp (op:Int):ByteArray:=⟨#[ltr ((kindsOf op).getD 0 0),ltr ((kindsOf op).getD 1 0),ltr ((kindsOf op).getD 2 0),ltr ((kindsOf op).getD 3 0)]⟩
theorem shapeI (op:Int) (h:1≤op∧op≤13):DC Tryz.prog 70 [DI .i64 op] [] (fun r h=>r=DS (shp op)∧h=[]):=by
  have hmx:=mx_eq
  have hw:=CtR.within op 1 13
  have key:op=1∨op=2∨op=3∨op=4∨op=5∨op=6∨op=7∨op=8∨op=9∨op=10∨op=11∨op=12∨op=13:=by omega
  rcases key with rfl | rfl | rfl | rfl | rfl | rfl | rfl | rfl | rfl | rfl | rfl | rfl | rfl
  all_goals
    refine dcZ Tryz.func70 ?_
    simp only [go_sem]
    iterate 4 ((try (refine drvZ Tryz.func70 ?_;simp only [go_sem,Int.reduceLE,Int.reduceSub,Int.reduceToNat]));((with_reducible and_intros)<;>try exact sd);(try first | refine XK.p hw ok39 ?_ | refine XK.gp hw ok39 ?_))
    exact RetOb.plain (d:=DS _) ⟨rfl,rfl⟩ rfl
theorem fieldOkT (c : Cd) (h1 : c.vars.length ≤ mx) (h2 : c.arrays.length ≤ mx) (h3 : c.list.length ≤ mx) (k : Nat) (hk : k ≤ 6) (n : Int) (h : fOK c.vars.length c.arrays.length c.list.length k n = true) :
    DC Tryz.prog 72 [.agg (cdC c),.c (.v (.int .u8 (ltr k).toNat)),DI .i64 n] [] (fun r h=>r=DB true∧h=[]):=by
  have hmx:=mx_eq
  have hw:=fun hi=>CtR.within n 0 hi
  have hw4:=CtR.within n 4 10
  obtain ⟨vs,ar,ls⟩:=c
  simp only at h1 h2 h3 h
  simp only [fOK,topOf,Bool.and_eq_true,decide_eq_true_eq] at h
  have key:k=0∨k=1∨k=2∨k=3∨k=4∨k=5∨k=6:=by omega
  unfold cdC
  rcases key with rfl | rfl | rfl | rfl | rfl | rfl | rfl
  · rw [show (((ltr 0).toNat:Nat):Int)=45 from rfl]
    obtain rfl:n=0:=by simp at h;omega
    refine dcZ Tryz.func72 ?_
    simp only [go_sem]
    iterate 9 ((try (refine drvZ Tryz.func72 ?_;simp only [go_sem]));((with_reducible and_intros)<;>try exact sd))
    exact RetOb.plain (d:=DB true) ⟨rfl,rfl⟩ rfl
  · rw [show (((ltr 1).toNat:Nat):Int)=114 from rfl]
    have g1:decide (0≤n)=true:=by simp at h ⊢;omega
    have g2:decide (n≤13)=true:=by simp at h ⊢;omega
    have hw:=hw (13)
    rw [g1,g2] at hw
    refine dcZ Tryz.func72 ?_
    simp only [go_sem]
    iterate 10 ((try (refine drvZ Tryz.func72 ?_;simp only [go_sem,Int.reduceLE,List.length_map]));((with_reducible and_intros)<;>try exact sd);(try first | refine XK.p hw ok39 ?_ | refine XK.gp hw ok39 ?_))
    exact RetOb.plain (d:=DB true) ⟨rfl,rfl⟩ rfl
  · rw [show (((ltr 2).toNat:Nat):Int)=110 from rfl]
    have g1:decide (0≤n)=true:=by simp at h ⊢;omega
    have g2:decide (n≤255)=true:=by simp at h ⊢;omega
    have hw:=hw (255)
    rw [g1,g2] at hw
    refine dcZ Tryz.func72 ?_
    simp only [go_sem]
    iterate 10 ((try (refine drvZ Tryz.func72 ?_;simp only [go_sem,Int.reduceLE,List.length_map]));((with_reducible and_intros)<;>try exact sd);(try first | refine XK.p hw ok39 ?_ | refine XK.gp hw ok39 ?_))
    exact RetOb.plain (d:=DB true) ⟨rfl,rfl⟩ rfl
  · rw [show (((ltr 3).toNat:Nat):Int)=118 from rfl]
    have g1:decide (0≤n)=true:=by simp at h ⊢;omega
    have g2:decide (n≤(vs.length:Int) - 1)=true:=by simp at h ⊢;omega
    have hw:=hw ((vs.length:Int) - 1)
    rw [g1,g2] at hw
    refine dcZ Tryz.func72 ?_
    simp only [go_sem]
    iterate 10 ((try (refine drvZ Tryz.func72 ?_;simp only [go_sem,Int.reduceLE,List.length_map]));((with_reducible and_intros)<;>try exact sd);(try first | refine XK.p hw ok39 ?_ | refine XK.gp hw ok39 ?_))
    exact RetOb.plain (d:=DB true) ⟨rfl,rfl⟩ rfl
  · rw [show (((ltr 4).toNat:Nat):Int)=97 from rfl]
    have g1:decide (0≤n)=true:=by simp at h ⊢;omega
    have g2:decide (n≤(ar.length:Int) - 1)=true:=by simp at h ⊢;omega
    have hw:=hw ((ar.length:Int) - 1)
    rw [g1,g2] at hw
    refine dcZ Tryz.func72 ?_
    simp only [go_sem]
    iterate 10 ((try (refine drvZ Tryz.func72 ?_;simp only [go_sem,Int.reduceLE,List.length_map]));((with_reducible and_intros)<;>try exact sd);(try first | refine XK.p hw ok39 ?_ | refine XK.gp hw ok39 ?_))
    exact RetOb.plain (d:=DB true) ⟨rfl,rfl⟩ rfl
  · rw [show (((ltr 5).toNat:Nat):Int)=111 from rfl]
    have g1:decide (4≤n)=true:=by simp at h ⊢;omega
    have g2:decide (n≤10)=true:=by simp at h ⊢;omega
    rw [g1,g2] at hw4
    refine dcZ Tryz.func72 ?_
    simp only [go_sem]
    iterate 10 ((try (refine drvZ Tryz.func72 ?_;simp only [go_sem,Int.reduceLE,List.length_map]));((with_reducible and_intros)<;>try exact sd);(try first | refine XK.p hw4 ok39 ?_ | refine XK.gp hw4 ok39 ?_))
    exact RetOb.plain (d:=DB true) ⟨rfl,rfl⟩ rfl
  · rw [show (((ltr 6).toNat:Nat):Int)=105 from rfl]
    have g1:decide (0≤n)=true:=by simp at h ⊢;omega
    have g2:decide (n≤(ls.length:Int) - 1)=true:=by simp at h ⊢;omega
    have hw:=hw ((ls.length:Int) - 1)
    rw [g1,g2] at hw
    refine dcZ Tryz.func72 ?_
    simp only [go_sem]
    iterate 10 ((try (refine drvZ Tryz.func72 ?_;simp only [go_sem,Int.reduceLE,List.length_map]));((with_reducible and_intros)<;>try exact sd);(try first | refine XK.p hw ok39 ?_ | refine XK.gp hw ok39 ?_))
    exact RetOb.plain (d:=DB true) ⟨rfl,rfl⟩ rfl
theorem fieldsI (x:In):DC Tryz.prog 71 [.agg (inX x)] [] (fun r h=>r = .c (isI [x.a,x.b,x.c,x.d])∧h=[]):=by
  have hmx:=mx_eq
  obtain ⟨op,a,b,c,d⟩:=x
  unfold inX
  refine dcZ Tryz.func71 ?_
  simp only [go_sem]
  iterate 3 ((try (refine drvZ Tryz.func71 ?_;simp only [go_sem]));((with_reducible and_intros)<;>try exact sd))
  refine RetOb.ofQ (fun _=>none) [640] (.c (isI [a,b,c,d])) [] ?_ ⟨rfl,rfl⟩ (by simp)
  simp [enumL,hOf,DM,CM,CMs,HpOK,LowOK,upd,kf,isI]
theorem kinds_le (op:Int) (i:Nat):(kindsOf op).getD i 0≤6:=by
  have:∀ l:List Nat,(∀ x ∈ l,x≤6)→l.getD i 0≤6:=fun l h=>by
    rw [List.getD_eq_getElem?_getD]
    cases hx:l[i]? with
    | none=>simp
    | some x=>simpa using h x (List.mem_of_getElem? hx)
  apply this
  unfold kindsOf
  repeat' split
  all_goals simp
theorem shp_at (op:Int) (i:Nat) (h:i<4):(shp op).data.toList.getD i 0=ltr ((kindsOf op).getD i 0):=by
  have:i=0∨i=1∨i=2∨i=3:=by omega
  rcases this with rfl | rfl | rfl | rfl<;>rfl
theorem toList_nil:ByteArray.toList { data:=#[] }=[]:=by
  unfold ByteArray.toList
  unfold ByteArray.toList.loop
  rfl
theorem loop_len (bs : ByteArray) : ∀ (n i : Nat) (r : List UInt8), bs.size - i = n → (ByteArray.toList.loop bs i r).length = r.length + n
  | 0,i,r,h=>by
    unfold ByteArray.toList.loop
    rw [if_neg (by omega)];simp
  | n+1,i,r,h=>by
    unfold ByteArray.toList.loop
    rw [if_pos (by omega),loop_len bs n (i+1) _ (by omega)]
    simp only [List.length_cons];omega
theorem shp_ne (op:Int) (h:1≤op∧op≤13):((shp op).toList == (ByteArray.toList { data:=#[] }))=false:=by
  rw [toList_nil,beq_eq_false_iff_ne]
  intro he
  have:=loop_len (shp op) 4 0 [] rfl
  unfold ByteArray.toList at he
  rw [he] at this
  simp at this
theorem instrOkT (c : Cd) (h1 : c.vars.length ≤ mx) (h2 : c.arrays.length ≤ mx) (h3 : c.list.length ≤ mx) (x : In) (h : inOK c.vars.length c.arrays.length c.list.length x = true) :
    DC Tryz.prog 42 [.agg (cdC c),.agg (inX x)] [] (fun r h=>r=DB true∧h=[]):=by
  have hmx:=mx_eq
  have hf:=fun k hk n hn=>fieldOkT c h1 h2 h3 k hk n hn
  have hfi:=fieldsI x
  obtain ⟨op,a,b,c',d⟩:=x
  simp only [inOK,Bool.and_eq_true,decide_eq_true_eq] at h
  obtain ⟨⟨⟨⟨⟨o1,o2⟩,q0⟩,q1⟩,q2⟩,q3⟩:=h
  have hsh:=shapeI op ⟨o1,o2⟩
  have hq:∀ i:Nat,i<4→fOK c.vars.length c.arrays.length c.list.length ((kindsOf op).getD i 0) ([a,b,c',d].getD i 0)=true:=fun i hi=>by
    have:i=0∨i=1∨i=2∨i=3:=by omega
    rcases this with rfl | rfl | rfl | rfl<;>assumption
  have hsz:(shp op).size=4:=rfl
  have hse:((shp op).toList == (ByteArray.toList { data:=#[] }))=false:=shp_ne op ⟨o1,o2⟩
  unfold cdC at hf ⊢
  unfold inX at hfi
  unfold inX
  refine dcZ Tryz.func42 ?_
  simp only [go_sem]
  iterate 5 ((try (refine drvZ Tryz.func42 ?_;simp only [go_sem]));((with_reducible and_intros)<;>try exact sd);(try first | refine XK.p hsh ok70 ?_ | refine XK.gp hsh ok70 ?_ | refine XK.p hfi ok71 ?_ | refine XK.gp hfi ok71 ?_))
  refine Go.loopQ (fun i : Nat => [(2, .c (.ptr 0 0)), (5, DS (shp op)), (12, .c (.isl 1 [[I64 a], [I64 b], [I64 c'], [I64 d]])), (13, DI .i64 4), (14, DI .i64 i)]) (fun _ => [(0, some [isI c.vars, isI c.arrays, .isl 5 (c.list.map inX)])])
    4096 (fun i=>i≤4) (fun i=>4 - i) ?_ 0 some [] _ (by omega) ?_
  · intro i hi again
    rcases Nat.lt_or_ge i 4 with hlt | hge
    · have hx:[[I64 a],[I64 b],[I64 c'],[I64 d]][i]? = some [I64 ([a,b,c',d].getD i 0)]:=by
        have:i=0∨i=1∨i=2∨i=3:=by omega
        rcases this with rfl | rfl | rfl | rfl<;>rfl
      have hc:=hf _ (kinds_le op i) _ (hq i hlt)
      have hat:=shp_at op i hlt
      have hlt':(i:Int)<4:=by omega
      generalize [a,b,c',d].getD i 0=n at *
      generalize (kindsOf op).getD i 0=k at *
      generalize [[I64 a],[I64 b],[I64 c'],[I64 d]]=fl at *
      generalize shp op=sp at *
      refine drvL Tryz.func42 ?_
      simp only [go_sem,hlt']
      iterate 5 ((try (refine drvZ Tryz.func42 ?_;simp only [go_sem,hx,hlt',hat,hsz,hse]));((with_reducible and_intros)<;>try exact sd);(try first | refine XK.p hc ok72 ?_ | refine XK.gp hc ok72 ?_))
      refine again (i+1) some [] _ (by omega) (by omega) ?_
      simp only [go_sem,TmOK,DM,DMs,CM,CMs,forall_eq,exists_eq_left,Mq,HpOK,LowOK]
      try simp
    · obtain rfl:i=4:=by omega
      have h44:(((4:Nat):Int)<4)=False:=eq_false (by decide)
      refine drvL Tryz.func42 ?_
      simp only [go_sem,h44]
      iterate 3 ((try (refine drvZ Tryz.func42 ?_;simp only [go_sem,h44]));((with_reducible and_intros)<;>try exact sd))
      exact RetOb.plain (d:=DB true) ⟨rfl,rfl⟩ rfl
  · simp only [go_sem,TmOK,DM,DMs,CM,CMs,forall_eq,exists_eq_left,Mq,HpOK,LowOK]
    simp
    exact fun a _=>rfl
open CtL (In Cd kindsOf topOf fOK inOK endOK codeOK atC halt)
theorem cvFn (c : Cd) (h1 : c.vars.length ≤ mx) (h2 : c.arrays.length ≤ mx) (h3 : c.list.length ≤ mx) (x : In) (h : inOK c.vars.length c.arrays.length c.list.length x = true) :
    DC Tryz.prog 41 [.agg (inX x),.c (.eptr (cdC c))] [] (fun r h=>r=DB false∧h=[]):=by
  have hio:=instrOkT c h1 h2 h3 x h
  unfold cdC at hio ⊢
  obtain ⟨op,a,b,c',d⟩:=x
  unfold inX at hio ⊢
  refine dcZ Tryz.func41 ?_
  simp only [go_sem]
  iterate 4 ((try (refine drvZ Tryz.func41 ?_;simp only [go_sem]));((with_reducible and_intros)<;>try exact sd);(try first | refine XK.p hio ok42 ?_ | refine XK.gp hio ok42 ?_))
  exact RetOb.plain (d:=DB false) ⟨rfl,rfl⟩ rfl
theorem indexFuncN (cc : List C) (xs : List In) (hl : xs.length ≤ mx) (hg : ∀ x ∈ xs, DC Tryz.prog 41 [.agg (inX x), .c (.eptr cc)] [] (fun r h => r = DB false ∧ h = [])) :
    DC Tryz.prog 69 [.c (.isl 5 (xs.map inX)),.c (.clo 41 [.eptr cc])] [] (fun d h=>d=DI .i64 (-1)∧h=[]):=by
  have hmx:=mx_eq
  refine dcZ Tryz.func69 ?_
  simp only [go_sem]
  ((try (refine drvZ Tryz.func69 ?_;simp only [go_sem]));((with_reducible and_intros)<;>try exact sd))
  refine Go.loopQ (fun i:Nat=>[(0,.c (.isl 5 (xs.map inX))),(1,.c (.clo 41 [.eptr cc])),(7,DI .i64 xs.length),(8,DI .i64 i)]) (fun _=>[]) 1024 (fun i=>i≤xs.length) (fun i=>xs.length - i) ?_ 0 some [] _ (Nat.zero_le _) ?_
  · intro i hi again
    rcases Nat.lt_or_ge i xs.length with hlt | hge
    · obtain ⟨⟨op,a,b,c,d⟩,hx⟩:∃ x,xs[i]? = some x:=⟨xs[i],by simp [hlt]⟩
      have hgx:=hg _ (List.mem_of_getElem? hx)
      simp only [inX] at hgx
      refine drvL Tryz.func69 ?_
      simp only [go_sem,hx,hlt,inX]
      iterate 5 ((try (refine drvZ Tryz.func69 ?_;simp only [go_sem,hx,hlt,inX]));((with_reducible and_intros)<;>try exact sd);(try first | refine XK.p hgx ok41 ?_ | refine XK.gp hgx ok41 ?_))
      refine again (i+1) some [] _ hlt (by omega) ?_
      simp only [go_sem,TmOK,DM,DMs,CM,CMs,forall_eq,exists_eq_left,Mq,HpOK,LowOK]
      first | done | (simp;done) | (simp;exact CM.kf rfl) | exact CM.kf rfl
    · have hn:¬ i<xs.length:=by omega
      refine drvL Tryz.func69 ?_
      simp only [go_sem,hn]
      iterate 3 ((try (refine drvZ Tryz.func69 ?_;simp only [go_sem,hn]));((with_reducible and_intros)<;>try exact sd))
      exact RetOb.plain (d:=DI .i64 (-1)) ⟨rfl,rfl⟩ rfl
  · simp only [go_sem,TmOK,DM,DMs,CM,CMs,forall_eq,exists_eq_left,Mq,HpOK,LowOK]
    first | done | (simp;done) | (simp;exact CM.kf rfl) | exact CM.kf rfl
theorem containsFuncN (cc : List C) (xs : List In) (hl : xs.length ≤ mx) (hg : ∀ x ∈ xs, DC Tryz.prog 41 [.agg (inX x), .c (.eptr cc)] [] (fun r h => r = DB false ∧ h = [])) :
    DC Tryz.prog 40 [.c (.isl 5 (xs.map inX)),.c (.clo 41 [.eptr cc])] [] (fun d h=>d=DB false∧h=[]):=by
  have hif:=indexFuncN cc xs hl hg
  refine dcZ Tryz.func40 ?_
  simp only [go_sem]
  iterate 3 ((try (refine drvZ Tryz.func40 ?_;simp only [go_sem,Int.reduceLE]));((with_reducible and_intros)<;>try exact sd);(try first | refine XK.p hif ok69 ?_ | refine XK.gp hif ok69 ?_))
  exact RetOb.plain (d:=DB false) ⟨rfl,rfl⟩ rfl
theorem codeValidT (c:Cd) (h1:c.vars.length≤mx) (h2:c.arrays.length≤mx) (h3:c.list.length≤mx) (h:codeOK c=true):DC Tryz.prog 13 [.agg (cdC c)] [] (fun r h=>r=DB true∧h=[]):=by
  have hmx:=mx_eq
  have hfn:=fun x hx=>cvFn c h1 h2 h3 x hx
  obtain ⟨vs,ar,l⟩:=c
  simp only [codeOK,Bool.and_eq_true,decide_eq_true_eq,List.all_eq_true] at h
  obtain ⟨⟨⟨⟨hh,hl1⟩,hl2⟩,hall⟩,hend⟩:=h
  simp only at h1 h2 h3 hfn
  have hcf:=containsFuncN (cdC ⟨vs,ar,l⟩) l h3 fun x hx=>hfn x (hall x hx)
  have hde:=declared vs ar h1 h2
  rw [hh] at hde
  have hw:=CtR.within l.length 1 400
  rw [decide_eq_true hl1,decide_eq_true hl2] at hw
  obtain ⟨x,hx⟩:∃ x,l[l.length - 1]? = some x:=⟨l[l.length - 1]'(by omega),by simp⟩
  have hat:atC l (l.length - 1)=x:=by simp [atC,List.getD,hx]
  simp only [endOK,hat,Bool.or_eq_true,beq_iff_eq] at hend
  have hpos:((l.length:Int) - 1).toNat=l.length - 1:=by omega
  obtain ⟨op,xa,xb,xc,xd⟩:=x
  simp only at hend
  unfold cdC at hcf ⊢
  refine dcZ Tryz.func13 ?_
  simp only [go_sem]
  iterate 6 ((try (refine drvZ Tryz.func13 ?_;simp only [go_sem,List.length_map]));((with_reducible and_intros)<;>try exact sd);(try first | refine XK.p hde ok38 ?_ | refine XK.gp hde ok38 ?_ | refine XK.p hw ok39 ?_ | refine XK.gp hw ok39 ?_))
  refine XK.subQ (r := some) (fz := [0]) (tl := [(1, .c (.eptr [isI vs, isI ar, .isl 5 (l.map inX)])), (2, DB false), (17, DB false), (19, .when true (.c (.isl 5 (l.map inX)))), (20, .when true (.c (.clo 41 [.eptr [isI vs, isI ar, .isl 5 (l.map inX)]])))])
    (hl:=[]) ?_ ?_
  · simp only [go_sem,TmOK,DM,DMs,CM,CMs,forall_eq,exists_eq_left,Mq,HpOK,LowOK]
    simp
  have hget:(l.map inX)[l.length - 1]? = some (inX ⟨op,xa,xb,xc,xd⟩):=by rw [List.getElem?_map,hx];rfl
  rcases hend with rfl | rfl
  · iterate 9 ((try (refine drvZ Tryz.func13 ?_;simp only [go_sem,List.length_map,hpos,hget,inX]));((with_reducible and_intros)<;>try exact sd);(try first | refine XK.p hcf ok40 ?_ | refine XK.gp hcf ok40 ?_))
    exact RetOb.plain (d:=DB true) ⟨rfl,rfl⟩ rfl
  · iterate 9 ((try (refine drvZ Tryz.func13 ?_;simp only [go_sem,List.length_map,hpos,hget,inX]));((with_reducible and_intros)<;>try exact sd);(try first | refine XK.p hcf ok40 ?_ | refine XK.gp hcf ok40 ?_))
    exact RetOb.plain (d:=DB true) ⟨rfl,rfl⟩ rfl
open CtL (In Cd codeOK)
open CtL (In Cd codeOK)
open CtL (In Cd kindsOf topOf fOK inOK endOK codeOK)
def hdC (c:Cd):Pg:=⟨c.vars,c.arrays,[]⟩
end Go.Proofs.YtfkhahkclgejnaaGreatDoor.CtD
namespace Go.Proofs.YtfkhahkclgejnaaGreatDoor.CtL
variable [Go.CT.Yn]
open Go Go.CT CtF CtR
end Go.Proofs.YtfkhahkclgejnaaGreatDoor.CtL
namespace Go.Proofs.YtfkhahkclgejnaaGreatDoor.CtD
open Go Go.CT CtF CtR
variable [Yn]
open CtL (In Cd kindsOf topOf fOK inOK endOK codeOK atC halt)
def slt (k:Nat):UInt8:=if k=1 then 114 else if k=2 then 99 else if k=3 then 118 else if k=4 then 97 else if k=5 then 111 else 116
def sls (op:Int):ByteArray:=⟨(((kindsOf op).filter (fun k => !(k == 0))).map slt).toArray⟩
theorem l6FieldsS (op:Int) (h:1≤op∧op≤13):DC Tryz.prog 65 [DI .i64 op] [] (fun r h=>r=DS (sls op)∧h=[]):=by
  have hmx:=mx_eq
  have key:op=1∨op=2∨op=3∨op=4∨op=5∨op=6∨op=7∨op=8∨op=9∨op=10∨op=11∨op=12∨op=13:=by omega
  rcases key with rfl | rfl | rfl | rfl | rfl | rfl | rfl | rfl | rfl | rfl | rfl | rfl | rfl
  all_goals
    refine dcZ Tryz.func65 ?_
    simp only [go_sem]
    iterate 4 ((try (refine drvZ Tryz.func65 ?_;simp only [go_sem,Int.reduceLE,Int.reduceSub,Int.reduceToNat]));((with_reducible and_intros)<;>try exact sd))
    exact RetOb.plain (d:=DS _) ⟨rfl,rfl⟩ rfl
theorem l6PartsS (x:In):DC Tryz.prog 66 [.agg (inX x)] [] (fun r h=>r = .c (isI [x.a,x.b,x.c,x.d])∧h=[]):=by
  have hmx:=mx_eq
  obtain ⟨op,a,b,c,d⟩:=x
  unfold inX
  refine dcZ Tryz.func66 ?_
  simp only [go_sem]
  iterate 3 ((try (refine drvZ Tryz.func66 ?_;simp only [go_sem]));((with_reducible and_intros)<;>try exact sd))
  refine RetOb.ofQ (fun _=>none) [640] (.c (isI [a,b,c,d])) [] ?_ ⟨rfl,rfl⟩ (by simp)
  simp [isI,enumL,DM,DMs,CM,CMs,HpOK,LowOK,hOf,upd,kf]
theorem l6RangeS (c : Cd) (h1 : c.vars.length ≤ mx) (h2 : c.arrays.length ≤ mx) (h3 : c.list.length ≤ mx) (k : Nat) (hk : 1 ≤ k ∧ k ≤ 6) (n : Int) :
    DC Tryz.prog 73 [.agg (cdC c),.c (.v (.int .u8 (slt k).toNat)),DI .i64 n] [] (fun r h=>r=DB (fOK c.vars.length c.arrays.length c.list.length k n)∧h=[]):=by
  have hmx:=mx_eq
  obtain ⟨vs,ar,ls⟩:=c
  simp only at h1 h2 h3
  have ret:∀ (b:Bool) (hp:Hp),b=fOK vs.length ar.length ls.length k n→RetOb 0 (fun r h=>r=DB (fOK vs.length ar.length ls.length k n)∧h=[]) (DB b) hp:=fun b hp h=>RetOb.plain (d:=DB _) ⟨by rw [h],rfl⟩ rfl
  generalize hR:(fun (r:D) (h:List (Option (List C)))=>r=DB (fOK vs.length ar.length ls.length k n)∧h=[])=R at ret ⊢
  clear hR
  have key:k=1∨k=2∨k=3∨k=4∨k=5∨k=6:=by omega
  unfold cdC
  rcases key with rfl | rfl | rfl | rfl | rfl | rfl
  · rw [show (((slt 1).toNat:Nat):Int)=114 from rfl]
    refine dcZ Tryz.func73 ?_
    simp only [go_sem]
    iterate 10 ((try (refine drvZ Tryz.func73 ?_;simp only [go_sem,List.length_map]));((with_reducible and_intros)<;>try exact sd))
    refine ret _ _ ?_
    rw [Bool.eq_iff_iff];simp [fOK,topOf];omega
  · rw [show (((slt 2).toNat:Nat):Int)=99 from rfl]
    refine dcZ Tryz.func73 ?_
    simp only [go_sem]
    iterate 10 ((try (refine drvZ Tryz.func73 ?_;simp only [go_sem,List.length_map]));((with_reducible and_intros)<;>try exact sd))
    refine ret _ _ ?_
    rw [Bool.eq_iff_iff];simp [fOK,topOf]
  · rw [show (((slt 3).toNat:Nat):Int)=118 from rfl]
    refine dcZ Tryz.func73 ?_
    simp only [go_sem]
    iterate 10 ((try (refine drvZ Tryz.func73 ?_;simp only [go_sem,List.length_map]));((with_reducible and_intros)<;>try exact sd))
    refine ret _ _ ?_
    rw [Bool.eq_iff_iff];simp [fOK,topOf];omega
  · rw [show (((slt 4).toNat:Nat):Int)=97 from rfl]
    refine dcZ Tryz.func73 ?_
    simp only [go_sem]
    iterate 10 ((try (refine drvZ Tryz.func73 ?_;simp only [go_sem,List.length_map]));((with_reducible and_intros)<;>try exact sd))
    refine ret _ _ ?_
    rw [Bool.eq_iff_iff];simp [fOK,topOf];omega
  · rw [show (((slt 5).toNat:Nat):Int)=111 from rfl]
    refine dcZ Tryz.func73 ?_
    simp only [go_sem]
    iterate 10 ((try (refine drvZ Tryz.func73 ?_;simp only [go_sem,List.length_map]));((with_reducible and_intros)<;>try exact sd))
    refine ret _ _ ?_
    rw [Bool.eq_iff_iff];simp [fOK,topOf]
  · rw [show (((slt 6).toNat:Nat):Int)=116 from rfl]
    refine dcZ Tryz.func73 ?_
    simp only [go_sem]
    iterate 10 ((try (refine drvZ Tryz.func73 ?_;simp only [go_sem,List.length_map]));((with_reducible and_intros)<;>try exact sd))
    refine ret _ _ ?_
    rw [Bool.eq_iff_iff];simp [fOK,topOf];omega
theorem sls_len (op:Int) (i:Nat) (h:i<4):(i<(sls op).size) ↔ (kindsOf op).getD i 0 ≠ 0:=by
  have hi:i=0∨i=1∨i=2∨i=3:=by omega
  unfold sls kindsOf
  repeat' split
  all_goals rcases hi with rfl | rfl | rfl | rfl<;>decide
theorem kinds_len (op:Int):(kindsOf op).length=4:=by
  unfold kindsOf
  repeat' split
  all_goals rfl
theorem filt_at : ∀ (l : List Nat) (i : Nat), (∀ j k : Nat, j < k → l.getD k 0 ≠ 0 → l.getD j 0 ≠ 0) → l.getD i 0 ≠ 0 → ((l.filter (fun k => !(k == 0))).map slt)[i]? = some (slt (l.getD i 0))
  | [],i,_,h=>by simp at h
  | a :: r,i,hp,h=>by
    have ha:a ≠ 0:=by
      match i,h with
      | 0,h=>simpa using h
      | i+1,h=>have:=hp 0 (i+1) (by omega) h;simpa using this
    have hf:(a :: r).filter (fun k => !(k == 0))=a :: r.filter (fun k => !(k == 0)):=by simp [ha]
    rw [hf]
    match i,h with
    | 0,h=>simp
    | i+1,h =>
      have ih:=filt_at r i (fun j k hj hk=>by have:=hp (j+1) (k+1) (by omega) (by simpa using hk);simpa using this) (by simpa using h)
      simpa using ih
theorem kinds_pre (op:Int):∀ j k:Nat,j<k→(kindsOf op).getD k 0 ≠ 0→(kindsOf op).getD j 0 ≠ 0:=fun j k hj hk=>by
  have h4:k<4:=by
    rcases Nat.lt_or_ge k 4 with h4 | h4
    · exact h4
    · exfalso
      apply hk
      rw [List.getD_eq_getElem?_getD,List.getElem?_eq_none (by rw [kinds_len];exact h4)];rfl
  have hk':k=1∨k=2∨k=3:=by omega
  have hj':j=0∨j=1∨j=2:=by omega
  revert hk
  unfold kindsOf
  repeat' split
  all_goals (rcases hk' with rfl | rfl | rfl<;>rcases hj' with rfl | rfl | rfl<;>first | omega | decide)
theorem sls_at (op:Int) (i:Nat) (h:(kindsOf op).getD i 0 ≠ 0):(sls op).data.toList.getD i 0=slt ((kindsOf op).getD i 0):=by
  have:=filt_at (kindsOf op) i (kinds_pre op) h
  unfold sls
  rw [List.getD_eq_getElem?_getD]
  simp only
  rw [this];rfl
open CtL (In Cd kindsOf topOf fOK inOK endOK codeOK atC halt)
theorem heads6 (c:Cd):DC Tryz.prog 44 [.agg (cdC c)] [] (fun r h=>r = .agg (Pg.cells (hdC c))∧h=[]):=by
  have hmx:=mx_eq
  obtain ⟨vs,ar,l⟩:=c
  unfold cdC hdC
  refine dcZ Tryz.func44 ?_
  simp only [go_sem]
  iterate 4 ((try (refine drvZ Tryz.func44 ?_;simp only [go_sem]));((with_reducible and_intros)<;>try exact sd))
  refine RetOb.ofQ (fun _=>none) [] (.agg (Pg.cells ⟨vs,ar,[]⟩)) [] ?_ ⟨rfl,rfl⟩ (by simp)
  simp [Pg.cells,St1.cellsL,isI,enumL,DM,DMs,CM,CMs,HpOK,LowOK,hOf,upd,kf]
theorem l6InstrS (c : Cd) (h1 : c.vars.length ≤ mx) (h2 : c.arrays.length ≤ mx) (h3 : c.list.length ≤ mx) (x : In) :
    DC Tryz.prog 45 [.agg (cdC c),.agg (inX x)] [] (fun r h=>r=DB (inOK c.vars.length c.arrays.length c.list.length x)∧h=[]):=by
  have hmx:=mx_eq
  have hf:=fun k hk n=>l6RangeS c h1 h2 h3 k hk n
  have hpa:=l6PartsS x
  have ret:∀ (b:Bool) (hp:Hp),b=inOK c.vars.length c.arrays.length c.list.length x→RetOb 0 (fun r h=>r=DB (inOK c.vars.length c.arrays.length c.list.length x)∧h=[]) (DB b) hp:=fun b hp h=>RetOb.plain (d:=DB _) ⟨by rw [h],rfl⟩ rfl
  generalize hR:(fun (r:D) (h:List (Option (List C)))=>r=DB (inOK c.vars.length c.arrays.length c.list.length x)∧h=[])=R at ret ⊢
  clear hR
  obtain ⟨op,a,b,c',d⟩:=x
  by_cases o1:op<1
  · have g1:(op<1)=True:=eq_true o1
    unfold cdC inX
    refine dcZ Tryz.func45 ?_
    simp only [go_sem,g1]
    iterate 5 ((try (refine drvZ Tryz.func45 ?_;simp only [go_sem,g1]));((with_reducible and_intros)<;>try exact sd))
    refine ret _ _ ?_
    have hf0:decide (1≤op)=false:=by simp;omega
    simp [inOK,hf0]
  by_cases o2:13<op
  · have g1:(op<1)=False:=eq_false o1
    have g2:(13<op)=True:=eq_true o2
    unfold cdC inX
    refine dcZ Tryz.func45 ?_
    simp only [go_sem,g1,g2]
    iterate 5 ((try (refine drvZ Tryz.func45 ?_;simp only [go_sem,g1,g2]));((with_reducible and_intros)<;>try exact sd))
    refine ret _ _ ?_
    have hf0:decide (op≤13)=false:=by simp;omega
    simp [inOK,hf0]
  have g1:(op<1)=False:=eq_false o1
  have g2:(13<op)=False:=eq_false o2
  have hfd:=l6FieldsS op (by omega)
  have hk6:∀ i:Nat,(kindsOf op).getD i 0 ≠ 0→1≤(kindsOf op).getD i 0∧(kindsOf op).getD i 0≤6:=fun i h=>⟨by omega,kinds_le op i⟩
  have hin:inOK c.vars.length c.arrays.length c.list.length ⟨op,a,b,c',d⟩=(fOK c.vars.length c.arrays.length c.list.length ((kindsOf op).getD 0 0) a && fOK c.vars.length c.arrays.length c.list.length ((kindsOf op).getD 1 0) b && fOK c.vars.length c.arrays.length c.list.length ((kindsOf op).getD 2 0) c' && fOK c.vars.length c.arrays.length c.list.length ((kindsOf op).getD 3 0) d):=by
    unfold inOK
    rw [show decide (1≤op)=true by simp;omega,show decide (op≤13)=true by simp;omega]
    rfl
  rw [hin] at ret
  have retF:∀ (i:Nat) (hp:Hp),i<4→fOK c.vars.length c.arrays.length c.list.length ((kindsOf op).getD i 0) ([a,b,c',d].getD i 0)=false→RetOb 0 R (DB false) hp:=fun i hp hi h=>by
    refine ret _ _ ?_
    have:i=0∨i=1∨i=2∨i=3:=by omega
    rcases this with rfl | rfl | rfl | rfl
    · rw [show fOK c.vars.length c.arrays.length c.list.length ((kindsOf op).getD 0 0) a=false from h];simp only [Bool.and_false,Bool.false_and]
    · rw [show fOK c.vars.length c.arrays.length c.list.length ((kindsOf op).getD 1 0) b=false from h];simp only [Bool.and_false,Bool.false_and]
    · rw [show fOK c.vars.length c.arrays.length c.list.length ((kindsOf op).getD 2 0) c'=false from h];simp only [Bool.and_false,Bool.false_and]
    · rw [show fOK c.vars.length c.arrays.length c.list.length ((kindsOf op).getD 3 0) d=false from h];simp only [Bool.and_false]
  have retT:∀ (hp:Hp),(∀ i:Nat,i<4→fOK c.vars.length c.arrays.length c.list.length ((kindsOf op).getD i 0) ([a,b,c',d].getD i 0)=true)→RetOb 0 R (DB true) hp:=fun hp h=>by
    refine ret _ _ ?_
    have q0:=h 0 (by omega)
    have q1:=h 1 (by omega)
    have q2:=h 2 (by omega)
    have q3:=h 3 (by omega)
    rw [show fOK c.vars.length c.arrays.length c.list.length ((kindsOf op).getD 0 0) a=true from q0,show fOK c.vars.length c.arrays.length c.list.length ((kindsOf op).getD 1 0) b=true from q1,show fOK c.vars.length c.arrays.length c.list.length ((kindsOf op).getD 2 0) c'=true from q2,show fOK c.vars.length c.arrays.length c.list.length ((kindsOf op).getD 3 0) d=true from q3];rfl
  clear ret hin
  have hcx:cdC c=[isI c.vars,isI c.arrays,.isl 5 (c.list.map inX)]:=rfl
  have hlx:inX ⟨op,a,b,c',d⟩=[I64 op,I64 a,I64 b,I64 c',I64 d]:=rfl
  rw [hlx] at hpa ⊢
  simp only [hcx] at hf ⊢
  simp only at hpa
  generalize hLI:c.list.map inX=LI at *
  refine dcZ Tryz.func45 ?_
  simp only [go_sem,g1,g2]
  iterate 6 ((try (refine drvZ Tryz.func45 ?_;simp only [go_sem,g1,g2]));((with_reducible and_intros)<;>try exact sd);(try first | refine XK.p hfd ok65 ?_ | refine XK.gp hfd ok65 ?_ | refine XK.p hpa ok66 ?_ | refine XK.gp hpa ok66 ?_))
  refine Go.loopQ (fun i : Nat => [(2, .c (.ptr 0 0)), (5, DS (sls op)), (6, .c (.isl 1 [[I64 a], [I64 b], [I64 c'], [I64 d]])), (7, DI .i64 i)]) (fun _ => [(0, some [isI c.vars, isI c.arrays, .isl 5 LI])])
    2048 (fun i=>i≤4∧∀ j:Nat,j<i→fOK c.vars.length c.arrays.length c.list.length ((kindsOf op).getD j 0) ([a,b,c',d].getD j 0)=true) (fun i=>4 - i) ?_ 0 some [] _ ⟨by omega,fun j hj=>by omega⟩ ?_
  · rintro i ⟨hi,hI⟩ again
    rcases Nat.lt_or_ge i 4 with hlt | hge
    · have hx:[[I64 a],[I64 b],[I64 c'],[I64 d]][i]? = some [I64 ([a,b,c',d].getD i 0)]:=by
        have:i=0∨i=1∨i=2∨i=3:=by omega
        rcases this with rfl | rfl | rfl | rfl<;>rfl
      have hlt':(i:Int)<4:=by omega
      have hlt2:i < [[I64 a],[I64 b],[I64 c'],[I64 d]].length:=hlt
      have hln:=sls_len op i hlt
      have hat:=sls_at op i
      have hkk:=hk6 i
      have retF:=fun hp=>retF i hp hlt
      have hst:∀ q:fOK c.vars.length c.arrays.length c.list.length ((kindsOf op).getD i 0) ([a,b,c',d].getD i 0)=true,i+1≤4∧∀ j:Nat,j<i+1→fOK c.vars.length c.arrays.length c.list.length ((kindsOf op).getD j 0) ([a,b,c',d].getD j 0)=true:=fun q=>⟨hlt,fun j hj=>by
        by_cases e:j=i
        · subst e;exact q
        · exact hI j (by omega)⟩
      have hfz:(kindsOf op).getD i 0=0→fOK c.vars.length c.arrays.length c.list.length ((kindsOf op).getD i 0) ([a,b,c',d].getD i 0)=decide ([a,b,c',d].getD i 0=0):=fun e=>by
        rw [e,Bool.eq_iff_iff];simp [fOK,topOf];omega
      generalize [a,b,c',d].getD i 0=n at *
      generalize (kindsOf op).getD i 0=k at *
      generalize [[I64 a],[I64 b],[I64 c'],[I64 d]]=fl at *
      generalize sls op=sp at *
      by_cases hk0:k=0
      · subst hk0
        have hq:=hfz rfl
        have hnl:¬ i<sp.size:=fun h=>by have:=hln.1 h;omega
        have hge':(sp.size:Int)≤i:=by omega
        by_cases hn:n=0
        · have e1:(n != 0)=false:=by simp [hn]
          have hs:=hst (by rw [hq];simp [hn])
          refine drvL Tryz.func45 ?_
          simp only [go_sem,hlt',hlt2]
          iterate 8 ((try (refine drvZ Tryz.func45 ?_;simp only [go_sem,hx,hlt',hlt2,hnl,hge',e1]));((with_reducible and_intros)<;>try exact sd);(try first | refine XK.gs (DB false) ?_))
          refine again (i+1) some [] _ hs (by omega) ?_
          simp only [go_sem,TmOK,DM,DMs,CM,CMs,forall_eq,exists_eq_left,Mq,HpOK,LowOK]
          try simp
        · have e1:(n != 0)=true:=by simp [hn]
          refine drvL Tryz.func45 ?_
          simp only [go_sem,hlt',hlt2]
          iterate 8 ((try (refine drvZ Tryz.func45 ?_;simp only [go_sem,hx,hlt',hlt2,hnl,hge',e1]));((with_reducible and_intros)<;>try exact sd);(try first | refine XK.gs (DB false) ?_))
          exact retF _ (by rw [hq];simp [hn])
      · have hrg:=hf k (hkk hk0) n
        have hli:i<sp.size:=hln.2 hk0
        have hnge:¬ (sp.size:Int)≤i:=by omega
        have hat:=hat hk0
        cases hq:fOK c.vars.length c.arrays.length c.list.length k n with
        | true =>
          rw [hq] at hrg
          have hs:=hst hq
          refine drvL Tryz.func45 ?_
          simp only [go_sem,hlt',hlt2]
          iterate 6 ((try (refine drvZ Tryz.func45 ?_;simp only [go_sem,hx,hlt',hlt2,hli,hnge,hat]));((with_reducible and_intros)<;>try exact sd);(try first | refine XK.p hrg ok73 ?_ | refine XK.gp hrg ok73 ?_))
          refine again (i+1) some [] _ hs (by omega) ?_
          simp only [go_sem,TmOK,DM,DMs,CM,CMs,forall_eq,exists_eq_left,Mq,HpOK,LowOK]
          try simp
        | false =>
          rw [hq] at hrg
          refine drvL Tryz.func45 ?_
          simp only [go_sem,hlt',hlt2]
          iterate 6 ((try (refine drvZ Tryz.func45 ?_;simp only [go_sem,hx,hlt',hlt2,hli,hnge,hat]));((with_reducible and_intros)<;>try exact sd);(try first | refine XK.p hrg ok73 ?_ | refine XK.gp hrg ok73 ?_))
          exact retF _ hq
    · obtain rfl:i=4:=by omega
      have h44:(((4:Nat):Int)<4)=False:=eq_false (by decide)
      refine drvL Tryz.func45 ?_
      simp only [go_sem,h44]
      iterate 3 ((try (refine drvZ Tryz.func45 ?_;simp only [go_sem,h44]));((with_reducible and_intros)<;>try exact sd))
      exact retT _ hI
  · simp only [go_sem,TmOK,DM,DMs,CM,CMs,forall_eq,exists_eq_left,Mq,HpOK,LowOK]
    try simp
theorem codeValidS (c:Cd) (h1:c.vars.length≤2000000) (h2:c.arrays.length≤2000000) (h3:c.list.length≤100000000):DC Tryz.prog 14 [.agg (cdC c)] [] (fun r h=>r=DB (codeOK c)∧h=[]):=by
  have hmx:=mx_eq
  have hf:=fun x=>l6InstrS c (by omega) (by omega) (by omega) x
  have hhd:=heads6 c
  have hh2:=l2Heads (hdC c) (by simp only [hdC];omega) (by simp only [hdC];omega)
  have ret:∀ (b:Bool) (hp:Hp),b=codeOK c→RetOb 0 (fun r h=>r=DB (codeOK c)∧h=[]) (DB b) hp:=fun b hp h=>RetOb.plain (d:=DB _) ⟨by rw [h],rfl⟩ rfl
  generalize hR:(fun (r:D) (h:List (Option (List C)))=>r=DB (codeOK c)∧h=[])=R at ret ⊢
  clear hR
  obtain ⟨vs,ar,l⟩:=c
  simp only at h1 h2 h3 hf
  simp only [hdC] at hhd hh2
  unfold codeOK at ret
  simp only at ret
  generalize hhb:headsOK vs ar=hb at *
  unfold cdC at hf hhd ⊢
  simp only at hf hhd ⊢
  cases hb with
  | false =>
    refine dcZ Tryz.func14 ?_
    simp only [go_sem]
    iterate 6 ((try (refine drvZ Tryz.func14 ?_;simp only [go_sem]));((with_reducible and_intros)<;>try exact sd);(try first | refine XK.p hhd ok44 ?_ | refine XK.gp hhd ok44 ?_ | refine XK.p hh2 ok43 ?_ | refine XK.gp hh2 ok43 ?_))
    exact ret _ _ (by simp)
  | true =>
    by_cases hl1:(l.length:Int)<1
    · have g1:((l.length:Int)<1)=True:=eq_true hl1
      refine dcZ Tryz.func14 ?_
      simp only [go_sem,List.length_map,g1]
      iterate 6 ((try (refine drvZ Tryz.func14 ?_;simp only [go_sem,List.length_map,g1]));((with_reducible and_intros)<;>try exact sd);(try first | refine XK.p hhd ok44 ?_ | refine XK.gp hhd ok44 ?_ | refine XK.p hh2 ok43 ?_ | refine XK.gp hh2 ok43 ?_))
      refine ret _ _ ?_
      have hf0:decide (1≤(l.length:Int))=false:=by simp;omega
      simp [hf0]
    by_cases hl2:400<(l.length:Int)
    · have g1:((l.length:Int)<1)=False:=eq_false hl1
      have g2:(400<(l.length:Int))=True:=eq_true hl2
      refine dcZ Tryz.func14 ?_
      simp only [go_sem,List.length_map,g1,g2]
      iterate 6 ((try (refine drvZ Tryz.func14 ?_;simp only [go_sem,List.length_map,g1,g2]));((with_reducible and_intros)<;>try exact sd);(try first | refine XK.p hhd ok44 ?_ | refine XK.gp hhd ok44 ?_ | refine XK.p hh2 ok43 ?_ | refine XK.gp hh2 ok43 ?_))
      refine ret _ _ ?_
      have hf0:decide ((l.length:Int)≤400)=false:=by simp;omega
      simp [hf0]
    have g1:((l.length:Int)<1)=False:=eq_false hl1
    have g2:(400<(l.length:Int))=False:=eq_false hl2
    have t1:decide (1≤(l.length:Int))=true:=by simp;omega
    have t2:decide ((l.length:Int)≤400)=true:=by simp;omega
    rw [t1,t2] at ret
    simp only [Bool.true_and] at ret
    refine dcZ Tryz.func14 ?_
    simp only [go_sem,List.length_map,g1,g2]
    iterate 6 ((try (refine drvZ Tryz.func14 ?_;simp only [go_sem,List.length_map,g1,g2]));((with_reducible and_intros)<;>try exact sd);(try first | refine XK.p hhd ok44 ?_ | refine XK.gp hhd ok44 ?_ | refine XK.p hh2 ok43 ?_ | refine XK.gp hh2 ok43 ?_))
    refine Go.loopQ (fun i : Nat => [(1, .c (.ptr 0 0)), (3, DI .i64 l.length), (4, DI .i64 i)]) (fun _ => [(0, some [isI vs, isI ar, .isl 5 (l.map inX)])])
      1024 (fun i=>i≤l.length∧∀ j:Nat,j<i→∀ x,l[j]? = some x→inOK vs.length ar.length l.length x=true) (fun i=>l.length - i) ?_ 0 some [] _ ⟨by omega,fun j hj=>by omega⟩ ?_
    · rintro i ⟨hi,hI⟩ again
      rcases Nat.lt_or_ge i l.length with hlt | hge
      · obtain ⟨x,hx⟩:∃ x,l[i]? = some x:=⟨l[i],by simp [hlt]⟩
        have hxl:(l.map inX)[i]? = some [I64 x.op,I64 x.a,I64 x.b,I64 x.c,I64 x.d]:=by rw [List.getElem?_map,hx];rfl
        have hfx:=hf x
        unfold inX at hfx
        have hmem:x ∈ l:=List.mem_of_getElem? hx
        cases hq:inOK vs.length ar.length l.length x with
        | true =>
          rw [hq] at hfx
          obtain ⟨op,xa,xb,xc,xd⟩:=x
          have hs:i+1≤l.length∧∀ j:Nat,j<i+1→∀ x,l[j]? = some x→inOK vs.length ar.length l.length x=true:=⟨hlt,fun j hj y hy=>by
            by_cases e:j=i
            · subst e;rw [hx] at hy;cases hy;exact hq
            · exact hI j (by omega) y hy⟩
          simp only at hxl hfx
          refine drvL Tryz.func14 ?_
          simp only [go_sem,List.length_map,hlt]
          iterate 6 ((try (refine drvZ Tryz.func14 ?_;simp only [go_sem,List.length_map,hlt,hxl]));((with_reducible and_intros)<;>try exact sd);(try first | refine XK.p hfx ok45 ?_ | refine XK.gp hfx ok45 ?_))
          refine again (i+1) some [] _ hs (by omega) ?_
          simp only [go_sem,TmOK,DM,DMs,CM,CMs,forall_eq,exists_eq_left,Mq,HpOK,LowOK]
          try simp
        | false =>
          rw [hq] at hfx
          have hall:l.all (inOK vs.length ar.length l.length)=false:=by
            cases hq2:l.all (inOK vs.length ar.length l.length) with
            | false=>rfl
            | true=>rw [List.all_eq_true] at hq2;rw [hq2 x hmem] at hq;cases hq
          obtain ⟨op,xa,xb,xc,xd⟩:=x
          simp only at hxl hfx
          refine drvL Tryz.func14 ?_
          simp only [go_sem,List.length_map,hlt]
          iterate 6 ((try (refine drvZ Tryz.func14 ?_;simp only [go_sem,List.length_map,hlt,hxl]));((with_reducible and_intros)<;>try exact sd);(try first | refine XK.p hfx ok45 ?_ | refine XK.gp hfx ok45 ?_))
          exact ret _ _ (by rw [hall];rfl)
      · have hall:l.all (inOK vs.length ar.length l.length)=true:=by
          rw [List.all_eq_true]
          intro x hx
          obtain ⟨j,hj,rfl⟩:=List.getElem_of_mem hx
          exact hI j (by omega) _ (by simp [hj])
        rw [hall,Bool.true_and] at ret
        have hn:¬ i<l.length:=by omega
        obtain ⟨k,hk⟩:∃ k,l.length=k+1:=⟨l.length - 1,by omega⟩
        have hk1:(l.length:Int) - 1=(k:Int):=by omega
        have hkl:k<l.length:=by omega
        obtain ⟨x,hx⟩:∃ x,l[k]? = some x:=⟨l[k],by simp [hkl]⟩
        have hxl:(l.map inX)[k]? = some [I64 x.op,I64 x.a,I64 x.b,I64 x.c,I64 x.d]:=by rw [List.getElem?_map,hx];rfl
        have hen:endOK l=(x.op == 13 || x.op == 8):=by
          unfold endOK atC
          rw [hk,Nat.add_sub_cancel,List.getD_eq_getElem?_getD,hx];rfl
        rw [hen] at ret
        clear again
        obtain ⟨op,xa,xb,xc,xd⟩:=x
        simp only at hxl ret
        by_cases h13:op=13
        · subst h13
          refine drvL Tryz.func14 ?_
          simp only [go_sem,List.length_map,hn]
          iterate 6 ((try (refine drvZ Tryz.func14 ?_;simp only [go_sem,List.length_map,hn,hk1,hkl,hxl]));((with_reducible and_intros)<;>try exact sd))
          exact ret _ _ (by simp)
        · have e13:(op == 13)=false:=by simp [h13]
          refine drvL Tryz.func14 ?_
          simp only [go_sem,List.length_map,hn]
          iterate 6 ((try (refine drvZ Tryz.func14 ?_;simp only [go_sem,List.length_map,hn,hk1,hkl,hxl,e13]));((with_reducible and_intros)<;>try exact sd))
          exact ret _ _ (by simp [e13])
    · simp only [go_sem,TmOK,DM,DMs,CM,CMs,forall_eq,exists_eq_left,Mq,HpOK,LowOK]
      try simp
      try exact fun a _=>rfl
theorem eqIntST (l:List (Int)) (hl:l.length≤mx)  : DC Tryz.prog 29 [.c (.isl 1 ((l.map fun n=>[I64 n]))),.c (.isl 1 ((l.map fun n=>[I64 n])))] [] (fun r h=>r=DB true∧h=[]):=by
  have hmx:=mx_eq
  have ret:∀ hp:Hp,RetOb 0 (fun r h=>r=DB true∧h=[]) (DB true) hp:=fun hp=>RetOb.plain (d:=DB true) ⟨rfl,rfl⟩ rfl
  generalize hR:(fun (r:D) (h:List (Option (List C)))=>r=DB true∧h=[])=R at ret ⊢
  clear hR
  have hrl:((l.map fun n=>[I64 n])).length=l.length:=by simp [List.length_map]
  have hrx:∀ (i:Nat) x,l[i]? = some x→True:=fun _ _ _=>trivial
  refine dcZ Tryz.func29 ?_
  simp only [go_sem,hrl,bne_self_eq_false]
  iterate 4 ((try (refine drvZ Tryz.func29 ?_;simp only [go_sem,hrl,bne_self_eq_false]));((with_reducible and_intros)<;>try exact sd))
  refine Go.loopQ (fun i:Nat=>[(0,.c (.isl 1 ((l.map fun n=>[I64 n])))),(1,.c (.isl 1 ((l.map fun n=>[I64 n])))),(5,DI .i64 i)]) (fun _=>[]) 1024 (fun i=>i≤l.length) (fun i=>l.length - i) ?_ 0 some [] _ (by omega) ?_
  · intro i hi again
    rcases Nat.lt_or_ge i l.length with hlt | hge
    · obtain ⟨x,hx⟩:∃ x,l[i]? = some x:=⟨l[i],by simp [hlt]⟩
      have hxl:((l.map fun n=>[I64 n]))[i]? = some [I64 x]:=by rw [List.getElem?_map,hx];rfl
      generalize hRW:(l.map fun n=>[I64 n])=rows at *
      refine drvL Tryz.func29 ?_
      simp only [go_sem,hrl,hlt,hxl,bne_self_eq_false]
      iterate 6 ((try (refine drvZ Tryz.func29 ?_;simp only [go_sem,hrl,hlt,hxl,bne_self_eq_false]));((with_reducible and_intros)<;>try exact sd))
      refine again (i+1) some [] _ hlt (by omega) ?_
      simp only [go_sem,TmOK,DM,DMs,CM,CMs,forall_eq,exists_eq_left,Mq,HpOK,LowOK]
      try simp
    · have hn:¬ i<l.length:=by omega
      generalize hRW:(l.map fun n=>[I64 n])=rows at *
      refine drvL Tryz.func29 ?_
      simp only [go_sem,hrl,hn]
      iterate 3 ((try (refine drvZ Tryz.func29 ?_;simp only [go_sem,hrl,hn]));((with_reducible and_intros)<;>try exact sd))
      exact ret _
  · simp only [go_sem,TmOK,DM,DMs,CM,CMs,forall_eq,exists_eq_left,Mq,HpOK,LowOK]
    try simp
end Go.Proofs.YtfkhahkclgejnaaGreatDoor.CtD
