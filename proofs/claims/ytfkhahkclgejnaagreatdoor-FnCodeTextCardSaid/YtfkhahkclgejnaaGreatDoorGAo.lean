/- Contracts of functions of the program, one behind the other, as plain data: what each call returns and which blocks it leaves. -/
import Derived.Test.YtfkhahkclgejnaaGreatDoorGFacts
import Derived.Test.YtfkhahkclgejnaaGreatDoorGXy
import Derived.Test.YtfkhahkclgejnaaGreatDoorGAl
import Derived.Test.YtfkhahkclgejnaaGreatDoorGAm
import Derived.Test.YtfkhahkclgejnaaGreatDoorGAn
import Derived.Test.YtfkhahkclgejnaaGreatDoorGAj
set_option linter.unusedVariables false
set_option linter.unusedSimpArgs false
set_option linter.unusedSectionVars false
set_option maxHeartbeats 16000000
set_option maxRecDepth 100000
namespace Go.Proofs.YtfkhahkclgejnaaGreatDoor.CtL
variable [Go.CT.Yn]
open Go Go.CT CtF CtR
open CtD (rel)
open Go Go.CT CtF CtR
open CtD (rel)
theorem none0_e0 {e:Ex} (h:none0 e=true):e=e0:=by
  obtain ⟨k,v,ks⟩:=e
  simp only [none0,Ex.kind,Ex.value,Ex.kids,Bool.and_eq_true,beq_iff_eq,List.isEmpty_iff] at h
  obtain ⟨⟨rfl,rfl⟩,rfl⟩:=h
  rfl
theorem head_parts {p : Pg} {k t : Int} {ix v : Ex} {c : Int} {b e : List St1} (h : headOK p k t ix v c b.length e.length = true) :
    (k=4→e=[]∧ix=e0∧v=e0)∧(k ≠ 4→c=0∧(k ≠ 2→ix=e0))∧(k ≠ 3→k ≠ 4→b=[]∧e=[])∧(k=3∨k=4→t=0):=by
  simp only [headOK,parts,blk,Bool.and_eq_true] at h
  obtain ⟨⟨h1,h2⟩,_⟩:=h
  refine ⟨fun hk=>?_,fun hk=>?_,fun h3 h4=>?_,fun hk=>?_⟩
  · rw [if_pos hk] at h2
    simp only [Bool.and_eq_true,beq_iff_eq] at h2
    exact ⟨List.length_eq_zero_iff.1 (by omega),none0_e0 h2.1.2,none0_e0 h2.2⟩
  · rw [if_neg hk] at h2
    simp only [Bool.and_eq_true,beq_iff_eq,Bool.or_eq_true] at h2
    exact ⟨h2.1,fun h=>none0_e0 (h2.2.resolve_left h)⟩
  · have e1:(k == 3)=false:=by simpa using h3
    have e2:(k == 4)=false:=by simpa using h4
    have:b.length=0∧e.length=0:=by
      cases b<;>cases e<;>simp_all
    exact ⟨List.length_eq_zero_iff.1 this.1,List.length_eq_zero_iff.1 this.2⟩
  · have:(k == 3 || k == 4)=true:=by rcases hk with rfl | rfl<;>rfl
    rw [this] at h1
    simpa using h1
open Go Go.CT CtF CtR
open CtD (rel)
end Go.Proofs.YtfkhahkclgejnaaGreatDoor.CtL
namespace Go.Proofs.YtfkhahkclgejnaaGreatDoor.CtD
open Go Go.CT CtF CtR
variable [Yn]
theorem intsKeepT {hp:Hp} {k n:Nat} {L:List Int} {ok:Bool} (hk:hp k=some (some (L.map I64))) (hn:n=L.length):RetOb 0 (fun r h=>r = .tup [.c (.msl 0 1 0 L.length),DB ok]∧h=[some (L.map I64)]) (.tup [.c (.msl k 1 0 n),DB ok]) hp:=by
  subst hn
  refine RetOb.ofQ (fun j=>if j=0 then some k else none) [] _ [some (L.map I64)] ?_ ⟨rfl,rfl⟩ (by simp)
  have e4:∀ {hT hS:Hp} {r:Nat→Option Nat} {fz:List Nat},CMs hT r hS fz (L.map I64) (L.map I64)=True:=eq_true (CMs.kf (kf_I L))
  simp [-List.mem_map,enumL,DM,DMs,CM,CMs,HpOK,LowOK,hOf,upd,hk,e4]
theorem intsNilT {hp:Hp} {ok:Bool}:RetOb 0 (fun r h=>r = .tup [.c (.msl 0 1 0 ([]:List Int).length),DB ok]∧h=[some (([]:List Int).map I64)]) (.tup [.c (.v (.slice none 0 0)),DB ok]) hp:=by
  refine RetOb.ofQ (fun j=>none) [] (.tup [.c (.msl 0 1 0 0),DB ok]) [some []] ?_ ⟨rfl,rfl⟩ (by simp)
  simp [enumL,DM,DMs,CM,CMs,HpOK,LowOK,hOf,upd]
end Go.Proofs.YtfkhahkclgejnaaGreatDoor.CtD
namespace Go.Proofs.YtfkhahkclgejnaaGreatDoor.CtL
variable [Go.CT.Yn]
open Go Go.CT CtF CtR
open CtD (rel)
open Go Go.CT CtF CtR
open Go Go.CT CtF CtR
structure In where
  op:Int
  a:Int
  b:Int
  c:Int
  d:Int
structure Cd where
  vars:List Int
  arrays:List Int
  list:List In
def halt:In:=⟨13,0,0,0,0⟩
def atC (C:List In) (i:Nat):In:=C.getD i halt
def stp (X:List Ev):Nat:=X.countP fun e=>e.kind == 5
open Go Go.CT CtF CtR
open Go Go.CT CtF CtR
open Go Go.CT CtF CtR
def kindsOf (op:Int):List Nat :=
  if op=1 then [1,2,0,0] else if op=2 then [1,3,0,0] else if op=3 then [3,1,0,0] else if op=4 then [1,4,1,0] else if op=5 then [4,1,1,0]
  else if op=6 then [1,5,1,1] else if op=7 then [1,1,1,1] else if op=8 then [6,0,0,0] else if op=9 then [1,6,0,0] else if op=10 then [1,6,0,0]
  else if op=11 then [1,0,0,0] else [0,0,0,0]
def topOf (nv na nl:Nat) (k:Nat):Int:=if k=0 then 0 else if k=1 then 13 else if k=2 then 255 else if k=3 then (nv:Int) - 1 else if k=4 then (na:Int) - 1 else if k=5 then 10 else (nl:Int) - 1
def fOK (nv na nl:Nat) (k:Nat) (n:Int):Bool:=decide ((if k=5 then 4 else 0)≤n) && decide (n≤topOf nv na nl k)
def inOK (nv na nl:Nat) (x:In):Bool:=decide (1≤x.op) && decide (x.op≤13) && fOK nv na nl ((kindsOf x.op).getD 0 0) x.a && fOK nv na nl ((kindsOf x.op).getD 1 0) x.b && fOK nv na nl ((kindsOf x.op).getD 2 0) x.c && fOK nv na nl ((kindsOf x.op).getD 3 0) x.d
def endOK (l:List In):Bool:=(atC l (l.length - 1)).op == 13 || (atC l (l.length - 1)).op == 8
def codeOK (c:Cd):Bool:=headsOK c.vars c.arrays && decide (1≤(c.list.length:Int)) && decide ((c.list.length:Int)≤400) && c.list.all (inOK c.vars.length c.arrays.length c.list.length) && endOK c.list
end Go.Proofs.YtfkhahkclgejnaaGreatDoor.CtL
namespace Go.Proofs.YtfkhahkclgejnaaGreatDoor.CtD
open Go Go.CT CtF CtR
variable [Yn]
open CtL (In Cd)
def inX (x:In):List C:=[I64 x.op,I64 x.a,I64 x.b,I64 x.c,I64 x.d]
def inC (l:List In):List C:=(l.map inX).flatten
theorem inC_len (l:List In):(inC l).length=l.length * 5:=by
  unfold inC
  induction l with
  | nil=>rfl
  | cons a r ih=>simp only [List.map_cons,List.flatten_cons,List.length_append,ih,inX,List.length_cons,List.length_nil];omega
theorem inC_app (a b:List In):inC (a++b)=inC a++inC b:=by simp [inC]
theorem inC_one (x:In):inC [x]=inX x:=by simp [inC]
theorem inC_kf (l:List In):∀ c ∈ inC l,kf c=true:=by
  unfold inC
  intro c hc
  obtain ⟨x,hx,hc⟩:=List.mem_flatten.1 hc
  obtain ⟨e,_,rfl⟩:=List.mem_map.1 hx
  simp only [inX,List.mem_cons,List.not_mem_nil,or_false] at hc
  rcases hc with rfl | rfl | rfl | rfl | rfl<;>rfl
theorem renCs_in (r:Nat→Nat) (l:List In):renCs r (inC l)=inC l:=by
  unfold inC
  induction l with
  | nil=>rfl
  | cons a t ih=>simp only [List.map_cons,List.flatten_cons,inX,List.cons_append,List.nil_append,renCs,renC,ih]
theorem CMs_in {hT hS:Hp} {r:Nat→Option Nat} {fz:List Nat} (l:List In):CMs hT r hS fz (inC l) (inC l)=True:=eq_true (CMs.kf (inC_kf l))
open CtL (In Cd)
theorem inC_cons (x:In) (l:List In):inC (x :: l)=inX x++inC l:=by simp [inC]
open CtL (In Cd halt)
def cdC (c:Cd):List C:=[isI c.vars,isI c.arrays,.isl 5 (c.list.map inX)]
theorem I_len1 (l:List Int):∀ x ∈ l.map (fun n=>[I64 n]),x.length=1:=fun x hx=>by obtain ⟨e,_,rfl⟩:=List.mem_map.1 hx;rfl
theorem I_kf1 (l:List Int):∀ x ∈ l.map (fun n=>[I64 n]),∀ c ∈ x,kf c=true:=fun x hx c hc=>by
  obtain ⟨e,_,rfl⟩:=List.mem_map.1 hx
  rw [List.mem_singleton.1 hc];rfl
theorem in_flat (l:List In):(l.map inX).flatten=inC l:=rfl
theorem in_len5 (l:List In):∀ x ∈ l.map inX,x.length=5:=fun x hx=>by obtain ⟨e,_,rfl⟩:=List.mem_map.1 hx;rfl
theorem in_kf5 (l:List In):∀ x ∈ l.map inX,∀ c ∈ x,kf c=true:=fun x hx c hc=>inC_kf l c (List.mem_flatten.2 ⟨x,hx,hc⟩)
open CtL (In Cd halt)
theorem withFieldsI (op a b c d:Int) (q:List Int):DC Tryz.prog 27 [.agg [I64 op,I64 0,I64 0,I64 0,I64 0],.c (.msl 0 1 0 4)] [some ((a :: b :: c :: d :: q).map I64)] (fun r h=>r = .agg (inX ⟨op,a,b,c,d⟩)∧h=[some ((a :: b :: c :: d :: q).map I64)]):=by
  have hmx:=mx_eq
  refine dcZ Tryz.func27 ?_
  simp only [go_sem]
  iterate 3 ((try (refine drvZ Tryz.func27 ?_;simp only [go_sem,List.map_cons]));((with_reducible and_intros)<;>try exact sd))
  refine RetOb.ofQ some [] (.agg (inX ⟨op,a,b,c,d⟩)) [some ((a :: b :: c :: d :: q).map I64)] ?_ ⟨rfl,rfl⟩ (by simp)
  simp [enumL,hOf,DM,CM,CMs,HpOK,LowOK,upd,inX,hpL,CMs_I]
open CtL (In Cd kindsOf topOf fOK inOK endOK codeOK)
def ltr (k:Nat):UInt8:=if k=0 then 45 else if k=1 then 114 else if k=2 then 110 else if k=3 then 118 else if k=4 then 97 else if k=5 then 111 else 105
def shp (op:Int):ByteArray:=⟨#[ltr ((kindsOf op).getD 0 0),ltr ((kindsOf op).getD 1 0),ltr ((kindsOf op).getD 2 0),ltr ((kindsOf op).getD 3 0)]⟩
theorem shapeI (op:Int) (h:1≤op∧op≤13):DC Tryz.prog 70 [DI .i64 op] [] (fun r h=>r=DS (shp op)∧h=[]):=by
  have hmx:=mx_eq
  have hw:=CtR.within op 1 13
  have key:op=1∨op=2∨op=3∨op=4∨op=5∨op=6∨op=7∨op=8∨op=9∨op=10∨op=11∨op=12∨op=13:=by omega
  rcases key with rfl | rfl | rfl | rfl | rfl | rfl | rfl | rfl | rfl | rfl | rfl | rfl | rfl
  all_goals
    refine dcZ Tryz.func70 ?_
    simp only [go_sem]
    iterate 4 ((try (refine drvZ Tryz.func70 ?_;simp only [go_sem,Int.reduceLE,Int.reduceSub,Int.reduceToNat]));((with_reducible and_intros)<;>try exact sd);(try first | refine XK.p hw ok39 ?_ | refine XK.gp hw ok39 ?_))
    exact RetOb.plain (d:=DS _) ⟨rfl,rfl⟩ rfl
theorem fieldOkT (c : Cd) (h1 : c.vars.length ≤ mx) (h2 : c.arrays.length ≤ mx) (h3 : c.list.length ≤ mx) (k : Nat) (hk : k ≤ 6) (n : Int) (h : fOK c.vars.length c.arrays.length c.list.length k n = true) :
    DC Tryz.prog 72 [.agg (cdC c),.c (.v (.int .u8 (ltr k).toNat)),DI .i64 n] [] (fun r h=>r=DB true∧h=[]):=by
  have hmx:=mx_eq
  have hw:=fun hi=>CtR.within n 0 hi
  have hw4:=CtR.within n 4 10
  obtain ⟨vs,ar,ls⟩:=c
  simp only at h1 h2 h3 h
  simp only [fOK,topOf,Bool.and_eq_true,decide_eq_true_eq] at h
  have key:k=0∨k=1∨k=2∨k=3∨k=4∨k=5∨k=6:=by omega
  unfold cdC
  rcases key with rfl | rfl | rfl | rfl | rfl | rfl | rfl
  · rw [show (((ltr 0).toNat:Nat):Int)=45 from rfl]
    obtain rfl:n=0:=by simp at h;omega
    refine dcZ Tryz.func72 ?_
    simp only [go_sem]
    iterate 9 ((try (refine drvZ Tryz.func72 ?_;simp only [go_sem]));((with_reducible and_intros)<;>try exact sd))
    exact RetOb.plain (d:=DB true) ⟨rfl,rfl⟩ rfl
  · rw [show (((ltr 1).toNat:Nat):Int)=114 from rfl]
    have g1:decide (0≤n)=true:=by simp at h ⊢;omega
    have g2:decide (n≤13)=true:=by simp at h ⊢;omega
    have hw:=hw (13)
    rw [g1,g2] at hw
    refine dcZ Tryz.func72 ?_
    simp only [go_sem]
    iterate 10 ((try (refine drvZ Tryz.func72 ?_;simp only [go_sem,Int.reduceLE,List.length_map]));((with_reducible and_intros)<;>try exact sd);(try first | refine XK.p hw ok39 ?_ | refine XK.gp hw ok39 ?_))
    exact RetOb.plain (d:=DB true) ⟨rfl,rfl⟩ rfl
  · rw [show (((ltr 2).toNat:Nat):Int)=110 from rfl]
    have g1:decide (0≤n)=true:=by simp at h ⊢;omega
    have g2:decide (n≤255)=true:=by simp at h ⊢;omega
    have hw:=hw (255)
    rw [g1,g2] at hw
    refine dcZ Tryz.func72 ?_
    simp only [go_sem]
    iterate 10 ((try (refine drvZ Tryz.func72 ?_;simp only [go_sem,Int.reduceLE,List.length_map]));((with_reducible and_intros)<;>try exact sd);(try first | refine XK.p hw ok39 ?_ | refine XK.gp hw ok39 ?_))
    exact RetOb.plain (d:=DB true) ⟨rfl,rfl⟩ rfl
  · rw [show (((ltr 3).toNat:Nat):Int)=118 from rfl]
    have g1:decide (0≤n)=true:=by simp at h ⊢;omega
    have g2:decide (n≤(vs.length:Int) - 1)=true:=by simp at h ⊢;omega
    have hw:=hw ((vs.length:Int) - 1)
    rw [g1,g2] at hw
    refine dcZ Tryz.func72 ?_
    simp only [go_sem]
    iterate 10 ((try (refine drvZ Tryz.func72 ?_;simp only [go_sem,Int.reduceLE,List.length_map]));((with_reducible and_intros)<;>try exact sd);(try first | refine XK.p hw ok39 ?_ | refine XK.gp hw ok39 ?_))
    exact RetOb.plain (d:=DB true) ⟨rfl,rfl⟩ rfl
  · rw [show (((ltr 4).toNat:Nat):Int)=97 from rfl]
    have g1:decide (0≤n)=true:=by simp at h ⊢;omega
    have g2:decide (n≤(ar.length:Int) - 1)=true:=by simp at h ⊢;omega
    have hw:=hw ((ar.length:Int) - 1)
    rw [g1,g2] at hw
    refine dcZ Tryz.func72 ?_
    simp only [go_sem]
    iterate 10 ((try (refine drvZ Tryz.func72 ?_;simp only [go_sem,Int.reduceLE,List.length_map]));((with_reducible and_intros)<;>try exact sd);(try first | refine XK.p hw ok39 ?_ | refine XK.gp hw ok39 ?_))
    exact RetOb.plain (d:=DB true) ⟨rfl,rfl⟩ rfl
  · rw [show (((ltr 5).toNat:Nat):Int)=111 from rfl]
    have g1:decide (4≤n)=true:=by simp at h ⊢;omega
    have g2:decide (n≤10)=true:=by simp at h ⊢;omega
    rw [g1,g2] at hw4
    refine dcZ Tryz.func72 ?_
    simp only [go_sem]
    iterate 10 ((try (refine drvZ Tryz.func72 ?_;simp only [go_sem,Int.reduceLE,List.length_map]));((with_reducible and_intros)<;>try exact sd);(try first | refine XK.p hw4 ok39 ?_ | refine XK.gp hw4 ok39 ?_))
    exact RetOb.plain (d:=DB true) ⟨rfl,rfl⟩ rfl
  · rw [show (((ltr 6).toNat:Nat):Int)=105 from rfl]
    have g1:decide (0≤n)=true:=by simp at h ⊢;omega
    have g2:decide (n≤(ls.length:Int) - 1)=true:=by simp at h ⊢;omega
    have hw:=hw ((ls.length:Int) - 1)
    rw [g1,g2] at hw
    refine dcZ Tryz.func72 ?_
    simp only [go_sem]
    iterate 10 ((try (refine drvZ Tryz.func72 ?_;simp only [go_sem,Int.reduceLE,List.length_map]));((with_reducible and_intros)<;>try exact sd);(try first | refine XK.p hw ok39 ?_ | refine XK.gp hw ok39 ?_))
    exact RetOb.plain (d:=DB true) ⟨rfl,rfl⟩ rfl
theorem fieldsI (x:In):DC Tryz.prog 71 [.agg (inX x)] [] (fun r h=>r = .c (isI [x.a,x.b,x.c,x.d])∧h=[]):=by
  have hmx:=mx_eq
  obtain ⟨op,a,b,c,d⟩:=x
  unfold inX
  refine dcZ Tryz.func71 ?_
  simp only [go_sem]
  iterate 3 ((try (refine drvZ Tryz.func71 ?_;simp only [go_sem]));((with_reducible and_intros)<;>try exact sd))
  refine RetOb.ofQ (fun _=>none) [640] (.c (isI [a,b,c,d])) [] ?_ ⟨rfl,rfl⟩ (by simp)
  simp [enumL,hOf,DM,CM,CMs,HpOK,LowOK,upd,kf,isI]
theorem kinds_le (op:Int) (i:Nat):(kindsOf op).getD i 0≤6:=by
  have:∀ l:List Nat,(∀ x ∈ l,x≤6)→l.getD i 0≤6:=fun l h=>by
    rw [List.getD_eq_getElem?_getD]
    cases hx:l[i]? with
    | none=>simp
    | some x=>simpa using h x (List.mem_of_getElem? hx)
  apply this
  unfold kindsOf
  repeat' split
  all_goals simp
theorem shp_at (op:Int) (i:Nat) (h:i<4):(shp op).data.toList.getD i 0=ltr ((kindsOf op).getD i 0):=by
  have:i=0∨i=1∨i=2∨i=3:=by omega
  rcases this with rfl | rfl | rfl | rfl<;>rfl
theorem toList_nil:ByteArray.toList { data:=#[] }=[]:=by
  unfold ByteArray.toList
  unfold ByteArray.toList.loop
  rfl
theorem loop_len (bs : ByteArray) : ∀ (n i : Nat) (r : List UInt8), bs.size - i = n → (ByteArray.toList.loop bs i r).length = r.length + n
  | 0,i,r,h=>by
    unfold ByteArray.toList.loop
    rw [if_neg (by omega)];simp
  | n+1,i,r,h=>by
    unfold ByteArray.toList.loop
    rw [if_pos (by omega),loop_len bs n (i+1) _ (by omega)]
    simp only [List.length_cons];omega
theorem shp_ne (op:Int) (h:1≤op∧op≤13):((shp op).toList == (ByteArray.toList { data:=#[] }))=false:=by
  rw [toList_nil,beq_eq_false_iff_ne]
  intro he
  have:=loop_len (shp op) 4 0 [] rfl
  unfold ByteArray.toList at he
  rw [he] at this
  simp at this
theorem instrOkT (c : Cd) (h1 : c.vars.length ≤ mx) (h2 : c.arrays.length ≤ mx) (h3 : c.list.length ≤ mx) (x : In) (h : inOK c.vars.length c.arrays.length c.list.length x = true) :
    DC Tryz.prog 42 [.agg (cdC c),.agg (inX x)] [] (fun r h=>r=DB true∧h=[]):=by
  have hmx:=mx_eq
  have hf:=fun k hk n hn=>fieldOkT c h1 h2 h3 k hk n hn
  have hfi:=fieldsI x
  obtain ⟨op,a,b,c',d⟩:=x
  simp only [inOK,Bool.and_eq_true,decide_eq_true_eq] at h
  obtain ⟨⟨⟨⟨⟨o1,o2⟩,q0⟩,q1⟩,q2⟩,q3⟩:=h
  have hsh:=shapeI op ⟨o1,o2⟩
  have hq:∀ i:Nat,i<4→fOK c.vars.length c.arrays.length c.list.length ((kindsOf op).getD i 0) ([a,b,c',d].getD i 0)=true:=fun i hi=>by
    have:i=0∨i=1∨i=2∨i=3:=by omega
    rcases this with rfl | rfl | rfl | rfl<;>assumption
  have hsz:(shp op).size=4:=rfl
  have hse:((shp op).toList == (ByteArray.toList { data:=#[] }))=false:=shp_ne op ⟨o1,o2⟩
  unfold cdC at hf ⊢
  unfold inX at hfi
  unfold inX
  refine dcZ Tryz.func42 ?_
  simp only [go_sem]
  iterate 5 ((try (refine drvZ Tryz.func42 ?_;simp only [go_sem]));((with_reducible and_intros)<;>try exact sd);(try first | refine XK.p hsh ok70 ?_ | refine XK.gp hsh ok70 ?_ | refine XK.p hfi ok71 ?_ | refine XK.gp hfi ok71 ?_))
  refine Go.loopQ (fun i : Nat => [(2, .c (.ptr 0 0)), (5, DS (shp op)), (12, .c (.isl 1 [[I64 a], [I64 b], [I64 c'], [I64 d]])), (13, DI .i64 4), (14, DI .i64 i)]) (fun _ => [(0, some [isI c.vars, isI c.arrays, .isl 5 (c.list.map inX)])])
    4096 (fun i=>i≤4) (fun i=>4 - i) ?_ 0 some [] _ (by omega) ?_
  · intro i hi again
    rcases Nat.lt_or_ge i 4 with hlt | hge
    · have hx:[[I64 a],[I64 b],[I64 c'],[I64 d]][i]? = some [I64 ([a,b,c',d].getD i 0)]:=by
        have:i=0∨i=1∨i=2∨i=3:=by omega
        rcases this with rfl | rfl | rfl | rfl<;>rfl
      have hc:=hf _ (kinds_le op i) _ (hq i hlt)
      have hat:=shp_at op i hlt
      have hlt':(i:Int)<4:=by omega
      generalize [a,b,c',d].getD i 0=n at *
      generalize (kindsOf op).getD i 0=k at *
      generalize [[I64 a],[I64 b],[I64 c'],[I64 d]]=fl at *
      generalize shp op=sp at *
      refine drvL Tryz.func42 ?_
      simp only [go_sem,hlt']
      iterate 5 ((try (refine drvZ Tryz.func42 ?_;simp only [go_sem,hx,hlt',hat,hsz,hse]));((with_reducible and_intros)<;>try exact sd);(try first | refine XK.p hc ok72 ?_ | refine XK.gp hc ok72 ?_))
      refine again (i+1) some [] _ (by omega) (by omega) ?_
      simp only [go_sem,TmOK,DM,DMs,CM,CMs,forall_eq,exists_eq_left,Mq,HpOK,LowOK]
      try simp
    · obtain rfl:i=4:=by omega
      have h44:(((4:Nat):Int)<4)=False:=eq_false (by decide)
      refine drvL Tryz.func42 ?_
      simp only [go_sem,h44]
      iterate 3 ((try (refine drvZ Tryz.func42 ?_;simp only [go_sem,h44]));((with_reducible and_intros)<;>try exact sd))
      exact RetOb.plain (d:=DB true) ⟨rfl,rfl⟩ rfl
  · simp only [go_sem,TmOK,DM,DMs,CM,CMs,forall_eq,exists_eq_left,Mq,HpOK,LowOK]
    simp
    exact fun a _=>rfl
open CtL (In Cd kindsOf topOf fOK inOK endOK codeOK atC halt)
theorem cvFn (c : Cd) (h1 : c.vars.length ≤ mx) (h2 : c.arrays.length ≤ mx) (h3 : c.list.length ≤ mx) (x : In) (h : inOK c.vars.length c.arrays.length c.list.length x = true) :
    DC Tryz.prog 41 [.agg (inX x),.c (.eptr (cdC c))] [] (fun r h=>r=DB false∧h=[]):=by
  have hio:=instrOkT c h1 h2 h3 x h
  unfold cdC at hio ⊢
  obtain ⟨op,a,b,c',d⟩:=x
  unfold inX at hio ⊢
  refine dcZ Tryz.func41 ?_
  simp only [go_sem]
  iterate 4 ((try (refine drvZ Tryz.func41 ?_;simp only [go_sem]));((with_reducible and_intros)<;>try exact sd);(try first | refine XK.p hio ok42 ?_ | refine XK.gp hio ok42 ?_))
  exact RetOb.plain (d:=DB false) ⟨rfl,rfl⟩ rfl
theorem indexFuncN (cc : List C) (xs : List In) (hl : xs.length ≤ mx) (hg : ∀ x ∈ xs, DC Tryz.prog 41 [.agg (inX x), .c (.eptr cc)] [] (fun r h => r = DB false ∧ h = [])) :
    DC Tryz.prog 69 [.c (.isl 5 (xs.map inX)),.c (.clo 41 [.eptr cc])] [] (fun d h=>d=DI .i64 (-1)∧h=[]):=by
  have hmx:=mx_eq
  refine dcZ Tryz.func69 ?_
  simp only [go_sem]
  ((try (refine drvZ Tryz.func69 ?_;simp only [go_sem]));((with_reducible and_intros)<;>try exact sd))
  refine Go.loopQ (fun i:Nat=>[(0,.c (.isl 5 (xs.map inX))),(1,.c (.clo 41 [.eptr cc])),(7,DI .i64 xs.length),(8,DI .i64 i)]) (fun _=>[]) 1024 (fun i=>i≤xs.length) (fun i=>xs.length - i) ?_ 0 some [] _ (Nat.zero_le _) ?_
  · intro i hi again
    rcases Nat.lt_or_ge i xs.length with hlt | hge
    · obtain ⟨⟨op,a,b,c,d⟩,hx⟩:∃ x,xs[i]? = some x:=⟨xs[i],by simp [hlt]⟩
      have hgx:=hg _ (List.mem_of_getElem? hx)
      simp only [inX] at hgx
      refine drvL Tryz.func69 ?_
      simp only [go_sem,hx,hlt,inX]
      iterate 5 ((try (refine drvZ Tryz.func69 ?_;simp only [go_sem,hx,hlt,inX]));((with_reducible and_intros)<;>try exact sd);(try first | refine XK.p hgx ok41 ?_ | refine XK.gp hgx ok41 ?_))
      refine again (i+1) some [] _ hlt (by omega) ?_
      simp only [go_sem,TmOK,DM,DMs,CM,CMs,forall_eq,exists_eq_left,Mq,HpOK,LowOK]
      first | done | (simp;done) | (simp;exact CM.kf rfl) | exact CM.kf rfl
    · have hn:¬ i<xs.length:=by omega
      refine drvL Tryz.func69 ?_
      simp only [go_sem,hn]
      iterate 3 ((try (refine drvZ Tryz.func69 ?_;simp only [go_sem,hn]));((with_reducible and_intros)<;>try exact sd))
      exact RetOb.plain (d:=DI .i64 (-1)) ⟨rfl,rfl⟩ rfl
  · simp only [go_sem,TmOK,DM,DMs,CM,CMs,forall_eq,exists_eq_left,Mq,HpOK,LowOK]
    first | done | (simp;done) | (simp;exact CM.kf rfl) | exact CM.kf rfl
theorem containsFuncN (cc : List C) (xs : List In) (hl : xs.length ≤ mx) (hg : ∀ x ∈ xs, DC Tryz.prog 41 [.agg (inX x), .c (.eptr cc)] [] (fun r h => r = DB false ∧ h = [])) :
    DC Tryz.prog 40 [.c (.isl 5 (xs.map inX)),.c (.clo 41 [.eptr cc])] [] (fun d h=>d=DB false∧h=[]):=by
  have hif:=indexFuncN cc xs hl hg
  refine dcZ Tryz.func40 ?_
  simp only [go_sem]
  iterate 3 ((try (refine drvZ Tryz.func40 ?_;simp only [go_sem,Int.reduceLE]));((with_reducible and_intros)<;>try exact sd);(try first | refine XK.p hif ok69 ?_ | refine XK.gp hif ok69 ?_))
  exact RetOb.plain (d:=DB false) ⟨rfl,rfl⟩ rfl
theorem codeValidT (c:Cd) (h1:c.vars.length≤mx) (h2:c.arrays.length≤mx) (h3:c.list.length≤mx) (h:codeOK c=true):DC Tryz.prog 13 [.agg (cdC c)] [] (fun r h=>r=DB true∧h=[]):=by
  have hmx:=mx_eq
  have hfn:=fun x hx=>cvFn c h1 h2 h3 x hx
  obtain ⟨vs,ar,l⟩:=c
  simp only [codeOK,Bool.and_eq_true,decide_eq_true_eq,List.all_eq_true] at h
  obtain ⟨⟨⟨⟨hh,hl1⟩,hl2⟩,hall⟩,hend⟩:=h
  simp only at h1 h2 h3 hfn
  have hcf:=containsFuncN (cdC ⟨vs,ar,l⟩) l h3 fun x hx=>hfn x (hall x hx)
  have hde:=declared vs ar h1 h2
  rw [hh] at hde
  have hw:=CtR.within l.length 1 400
  rw [decide_eq_true hl1,decide_eq_true hl2] at hw
  obtain ⟨x,hx⟩:∃ x,l[l.length - 1]? = some x:=⟨l[l.length - 1]'(by omega),by simp⟩
  have hat:atC l (l.length - 1)=x:=by simp [atC,List.getD,hx]
  simp only [endOK,hat,Bool.or_eq_true,beq_iff_eq] at hend
  have hpos:((l.length:Int) - 1).toNat=l.length - 1:=by omega
  obtain ⟨op,xa,xb,xc,xd⟩:=x
  simp only at hend
  unfold cdC at hcf ⊢
  refine dcZ Tryz.func13 ?_
  simp only [go_sem]
  iterate 6 ((try (refine drvZ Tryz.func13 ?_;simp only [go_sem,List.length_map]));((with_reducible and_intros)<;>try exact sd);(try first | refine XK.p hde ok38 ?_ | refine XK.gp hde ok38 ?_ | refine XK.p hw ok39 ?_ | refine XK.gp hw ok39 ?_))
  refine XK.subQ (r := some) (fz := [0]) (tl := [(1, .c (.eptr [isI vs, isI ar, .isl 5 (l.map inX)])), (2, DB false), (17, DB false), (19, .when true (.c (.isl 5 (l.map inX)))), (20, .when true (.c (.clo 41 [.eptr [isI vs, isI ar, .isl 5 (l.map inX)]])))])
    (hl:=[]) ?_ ?_
  · simp only [go_sem,TmOK,DM,DMs,CM,CMs,forall_eq,exists_eq_left,Mq,HpOK,LowOK]
    simp
  have hget:(l.map inX)[l.length - 1]? = some (inX ⟨op,xa,xb,xc,xd⟩):=by rw [List.getElem?_map,hx];rfl
  rcases hend with rfl | rfl
  · iterate 9 ((try (refine drvZ Tryz.func13 ?_;simp only [go_sem,List.length_map,hpos,hget,inX]));((with_reducible and_intros)<;>try exact sd);(try first | refine XK.p hcf ok40 ?_ | refine XK.gp hcf ok40 ?_))
    exact RetOb.plain (d:=DB true) ⟨rfl,rfl⟩ rfl
  · iterate 9 ((try (refine drvZ Tryz.func13 ?_;simp only [go_sem,List.length_map,hpos,hget,inX]));((with_reducible and_intros)<;>try exact sd);(try first | refine XK.p hcf ok40 ?_ | refine XK.gp hcf ok40 ?_))
    exact RetOb.plain (d:=DB true) ⟨rfl,rfl⟩ rfl
open CtL (In Cd codeOK)
open CtL (In Cd codeOK)
open CtL (In Cd kindsOf topOf fOK inOK endOK codeOK)
def hdC (c:Cd):Pg:=⟨c.vars,c.arrays,[]⟩
theorem set_I (l:List Int) (i:Nat) (x:Int):(l.map I64).set i (.v (.int .i64 x))=(l.set i x).map I64:=(List.map_set).symm
end Go.Proofs.YtfkhahkclgejnaaGreatDoor.CtD
namespace Go.Proofs.YtfkhahkclgejnaaGreatDoor.CtL
variable [Go.CT.Yn]
open Go Go.CT CtF CtR
end Go.Proofs.YtfkhahkclgejnaaGreatDoor.CtL
namespace Go.Proofs.YtfkhahkclgejnaaGreatDoor.CtD
open Go Go.CT CtF CtR
variable [Yn]
open CtL (In Cd kindsOf topOf fOK inOK endOK codeOK atC halt)
def slt (k:Nat):UInt8:=if k=1 then 114 else if k=2 then 99 else if k=3 then 118 else if k=4 then 97 else if k=5 then 111 else 116
def sls (op:Int):ByteArray:=⟨(((kindsOf op).filter (fun k => !(k == 0))).map slt).toArray⟩
theorem l6FieldsS (op:Int) (h:1≤op∧op≤13):DC Tryz.prog 65 [DI .i64 op] [] (fun r h=>r=DS (sls op)∧h=[]):=by
  have hmx:=mx_eq
  have key:op=1∨op=2∨op=3∨op=4∨op=5∨op=6∨op=7∨op=8∨op=9∨op=10∨op=11∨op=12∨op=13:=by omega
  rcases key with rfl | rfl | rfl | rfl | rfl | rfl | rfl | rfl | rfl | rfl | rfl | rfl | rfl
  all_goals
    refine dcZ Tryz.func65 ?_
    simp only [go_sem]
    iterate 4 ((try (refine drvZ Tryz.func65 ?_;simp only [go_sem,Int.reduceLE,Int.reduceSub,Int.reduceToNat]));((with_reducible and_intros)<;>try exact sd))
    exact RetOb.plain (d:=DS _) ⟨rfl,rfl⟩ rfl
theorem l6PartsS (x:In):DC Tryz.prog 66 [.agg (inX x)] [] (fun r h=>r = .c (isI [x.a,x.b,x.c,x.d])∧h=[]):=by
  have hmx:=mx_eq
  obtain ⟨op,a,b,c,d⟩:=x
  unfold inX
  refine dcZ Tryz.func66 ?_
  simp only [go_sem]
  iterate 3 ((try (refine drvZ Tryz.func66 ?_;simp only [go_sem]));((with_reducible and_intros)<;>try exact sd))
  refine RetOb.ofQ (fun _=>none) [640] (.c (isI [a,b,c,d])) [] ?_ ⟨rfl,rfl⟩ (by simp)
  simp [isI,enumL,DM,DMs,CM,CMs,HpOK,LowOK,hOf,upd,kf]
theorem l6RangeS (c : Cd) (h1 : c.vars.length ≤ mx) (h2 : c.arrays.length ≤ mx) (h3 : c.list.length ≤ mx) (k : Nat) (hk : 1 ≤ k ∧ k ≤ 6) (n : Int) :
    DC Tryz.prog 73 [.agg (cdC c),.c (.v (.int .u8 (slt k).toNat)),DI .i64 n] [] (fun r h=>r=DB (fOK c.vars.length c.arrays.length c.list.length k n)∧h=[]):=by
  have hmx:=mx_eq
  obtain ⟨vs,ar,ls⟩:=c
  simp only at h1 h2 h3
  have ret:∀ (b:Bool) (hp:Hp),b=fOK vs.length ar.length ls.length k n→RetOb 0 (fun r h=>r=DB (fOK vs.length ar.length ls.length k n)∧h=[]) (DB b) hp:=fun b hp h=>RetOb.plain (d:=DB _) ⟨by rw [h],rfl⟩ rfl
  generalize hR:(fun (r:D) (h:List (Option (List C)))=>r=DB (fOK vs.length ar.length ls.length k n)∧h=[])=R at ret ⊢
  clear hR
  have key:k=1∨k=2∨k=3∨k=4∨k=5∨k=6:=by omega
  unfold cdC
  rcases key with rfl | rfl | rfl | rfl | rfl | rfl
  · rw [show (((slt 1).toNat:Nat):Int)=114 from rfl]
    refine dcZ Tryz.func73 ?_
    simp only [go_sem]
    iterate 10 ((try (refine drvZ Tryz.func73 ?_;simp only [go_sem,List.length_map]));((with_reducible and_intros)<;>try exact sd))
    refine ret _ _ ?_
    rw [Bool.eq_iff_iff];simp [fOK,topOf];omega
  · rw [show (((slt 2).toNat:Nat):Int)=99 from rfl]
    refine dcZ Tryz.func73 ?_
    simp only [go_sem]
    iterate 10 ((try (refine drvZ Tryz.func73 ?_;simp only [go_sem,List.length_map]));((with_reducible and_intros)<;>try exact sd))
    refine ret _ _ ?_
    rw [Bool.eq_iff_iff];simp [fOK,topOf]
  · rw [show (((slt 3).toNat:Nat):Int)=118 from rfl]
    refine dcZ Tryz.func73 ?_
    simp only [go_sem]
    iterate 10 ((try (refine drvZ Tryz.func73 ?_;simp only [go_sem,List.length_map]));((with_reducible and_intros)<;>try exact sd))
    refine ret _ _ ?_
    rw [Bool.eq_iff_iff];simp [fOK,topOf];omega
  · rw [show (((slt 4).toNat:Nat):Int)=97 from rfl]
    refine dcZ Tryz.func73 ?_
    simp only [go_sem]
    iterate 10 ((try (refine drvZ Tryz.func73 ?_;simp only [go_sem,List.length_map]));((with_reducible and_intros)<;>try exact sd))
    refine ret _ _ ?_
    rw [Bool.eq_iff_iff];simp [fOK,topOf];omega
  · rw [show (((slt 5).toNat:Nat):Int)=111 from rfl]
    refine dcZ Tryz.func73 ?_
    simp only [go_sem]
    iterate 10 ((try (refine drvZ Tryz.func73 ?_;simp only [go_sem,List.length_map]));((with_reducible and_intros)<;>try exact sd))
    refine ret _ _ ?_
    rw [Bool.eq_iff_iff];simp [fOK,topOf]
  · rw [show (((slt 6).toNat:Nat):Int)=116 from rfl]
    refine dcZ Tryz.func73 ?_
    simp only [go_sem]
    iterate 10 ((try (refine drvZ Tryz.func73 ?_;simp only [go_sem,List.length_map]));((with_reducible and_intros)<;>try exact sd))
    refine ret _ _ ?_
    rw [Bool.eq_iff_iff];simp [fOK,topOf];omega
theorem sls_len (op:Int) (i:Nat) (h:i<4):(i<(sls op).size) ↔ (kindsOf op).getD i 0 ≠ 0:=by
  have hi:i=0∨i=1∨i=2∨i=3:=by omega
  unfold sls kindsOf
  repeat' split
  all_goals rcases hi with rfl | rfl | rfl | rfl<;>decide
theorem kinds_len (op:Int):(kindsOf op).length=4:=by
  unfold kindsOf
  repeat' split
  all_goals rfl
theorem filt_at : ∀ (l : List Nat) (i : Nat), (∀ j k : Nat, j < k → l.getD k 0 ≠ 0 → l.getD j 0 ≠ 0) → l.getD i 0 ≠ 0 → ((l.filter (fun k => !(k == 0))).map slt)[i]? = some (slt (l.getD i 0))
  | [],i,_,h=>by simp at h
  | a :: r,i,hp,h=>by
    have ha:a ≠ 0:=by
      match i,h with
      | 0,h=>simpa using h
      | i+1,h=>have:=hp 0 (i+1) (by omega) h;simpa using this
    have hf:(a :: r).filter (fun k => !(k == 0))=a :: r.filter (fun k => !(k == 0)):=by simp [ha]
    rw [hf]
    match i,h with
    | 0,h=>simp
    | i+1,h =>
      have ih:=filt_at r i (fun j k hj hk=>by have:=hp (j+1) (k+1) (by omega) (by simpa using hk);simpa using this) (by simpa using h)
      simpa using ih
theorem kinds_pre (op:Int):∀ j k:Nat,j<k→(kindsOf op).getD k 0 ≠ 0→(kindsOf op).getD j 0 ≠ 0:=fun j k hj hk=>by
  have h4:k<4:=by
    rcases Nat.lt_or_ge k 4 with h4 | h4
    · exact h4
    · exfalso
      apply hk
      rw [List.getD_eq_getElem?_getD,List.getElem?_eq_none (by rw [kinds_len];exact h4)];rfl
  have hk':k=1∨k=2∨k=3:=by omega
  have hj':j=0∨j=1∨j=2:=by omega
  revert hk
  unfold kindsOf
  repeat' split
  all_goals (rcases hk' with rfl | rfl | rfl<;>rcases hj' with rfl | rfl | rfl<;>first | omega | decide)
theorem sls_at (op:Int) (i:Nat) (h:(kindsOf op).getD i 0 ≠ 0):(sls op).data.toList.getD i 0=slt ((kindsOf op).getD i 0):=by
  have:=filt_at (kindsOf op) i (kinds_pre op) h
  unfold sls
  rw [List.getD_eq_getElem?_getD]
  simp only
  rw [this];rfl
end Go.Proofs.YtfkhahkclgejnaaGreatDoor.CtD
