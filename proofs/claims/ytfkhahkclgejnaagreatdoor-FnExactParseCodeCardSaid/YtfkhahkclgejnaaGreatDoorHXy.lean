/- The program's data, plain, and as cells. -/
import Derived.KernelRfl
import Derived.Test.YtfkhahkclgejnaaGreatDoorHAi
set_option linter.unusedVariables false
set_option linter.unusedSimpArgs false
set_option linter.unusedSectionVars false
set_option maxHeartbeats 16000000
set_option maxRecDepth 100000
namespace Go.CT
inductive Ex where
  | mk (kind value:Int) (kids:List Ex)
inductive St1 where
  | mk (kind target:Int) (index value:Ex) (count:Int) (body els:List St1)
namespace Ex
def kind:Ex→Int | mk k _ _=>k
def value:Ex→Int | mk _ v _=>v
def kids:Ex→List Ex | mk _ _ ks=>ks
end Ex
namespace St1
def kind:St1→Int | mk k _ _ _ _ _ _=>k
def target:St1→Int | mk _ t _ _ _ _ _=>t
def index:St1→Ex | mk _ _ i _ _ _ _=>i
def value:St1→Ex | mk _ _ _ v _ _ _=>v
def count:St1→Int | mk _ _ _ _ c _ _=>c
def body:St1→List St1 | mk _ _ _ _ _ b _=>b
def els:St1→List St1 | mk _ _ _ _ _ _ e=>e
end St1
structure Pg where
  vars:List Int
  arrays:List Int
  body:List St1
structure Mm where
  vals:List Int
  arrays:List (List Int)
structure Ev where
  kind:Int
  value:Int
abbrev I64 (n:Int):C := .v (.int .i64 n)
def isI (xs:List Int):C := .isl 1 (xs.map fun n=>[I64 n])
mutual
def Ex.cells : Ex → List C
  | .mk k v ks=>[I64 k,I64 v,.isl 3 (Ex.cellsL ks)]
def Ex.cellsL : List Ex → List (List C)
  | []=>[]
  | e :: r=>Ex.cells e :: Ex.cellsL r
end
mutual
def St1.cells : St1 → List C
  | .mk k t i v c b e=>[I64 k,I64 t]++i.cells++v.cells++[I64 c,.isl 11 (St1.cellsL b),.isl 11 (St1.cellsL e)]
def St1.cellsL : List St1 → List (List C)
  | []=>[]
  | s :: r=>St1.cells s :: St1.cellsL r
end
def Pg.cells (p:Pg):List C:=[isI p.vars,isI p.arrays,.isl 11 (St1.cellsL p.body)]
def Mm.cells (m:Mm):List C:=[isI m.vals,.isl 1 (m.arrays.map fun a=>[isI a])]
def Ev.cells (e:Ev):List C:=[I64 e.kind,I64 e.value]
theorem Ex.cellsL_eq : ∀ l : List Ex, Ex.cellsL l = l.map Ex.cells
  | []=>rfl
  | e :: r=>by simp [Ex.cellsL,Ex.cellsL_eq r]
theorem St1.cellsL_eq : ∀ l : List St1, St1.cellsL l = l.map St1.cells
  | []=>rfl
  | e :: r=>by simp [St1.cellsL,St1.cellsL_eq r]
theorem Ex.cellsL_length (l:List Ex):(Ex.cellsL l).length=l.length:=by rw [Ex.cellsL_eq,List.length_map]
theorem Ex.cellsL_get (l:List Ex) (i:Nat):(Ex.cellsL l)[i]? = l[i]?.map Ex.cells:=by rw [Ex.cellsL_eq,List.getElem?_map]
theorem St1.cellsL_length (l:List St1):(St1.cellsL l).length=l.length:=by rw [St1.cellsL_eq,List.length_map]
theorem St1.cellsL_get (l:List St1) (i:Nat):(St1.cellsL l)[i]? = l[i]?.map St1.cells:=by rw [St1.cellsL_eq,List.getElem?_map]
theorem Ex.cells_len (e:Ex):e.cells.length=3:=by cases e;simp [Ex.cells]
theorem St1.cells_len (s:St1):s.cells.length=11:=by cases s;simp [St1.cells,Ex.cells_len]
end Go.CT
namespace Go.CT
variable [Yn]
def Mq (m:Nat) (r:Nat→Option Nat) (fz:List Nat) (tl:List (Nat × D)) (hl:List (Nat × Option (List C))) (S:Ms):Prop :=
  TmOK (hOf hl) r S.hp fz S.tm tl∧HpOK (hOf hl) r S.hp fz hl∧LowOK r (hOf hl) m∧((hl.filterMap fun p=>p.2.map fun _=>p.1).filterMap r).Nodup
section
variable {K:Bool} {P:Program} {m:Nat} {f:FuncId} {nt:Nat} {R:D→List (Option (List C))→Prop}
theorem live_mem {hl:List (Nat × Option (List C))} {k:Nat} {cs:List C} (h:(k,some cs) ∈ hl):k ∈ hl.filterMap fun p=>p.2.map fun _=>p.1 :=
  List.mem_filterMap.2 ⟨_,h,rfl⟩
theorem Mq.subH {r : Nat → Option Nat} {fz : List Nat} {tl : List (Nat × D)} {hl : List (Nat × Option (List C))} {S : Ms} (h : Mq m r fz tl hl S) : SubH m r fz (hOf hl) S.hp where
  live:=fun k cs hk=>HpOK.at h.2.1 k cs (hOf_mem hk)
  inj:=fun k k' cs cs' j h1 h2 h3 h4=>filterMap_inj h.2.2.2 k k' j (live_mem (hOf_mem h1)) (live_mem (hOf_mem h2)) h3 h4
  low:=h.2.2.1.at
theorem Mq.sub {r:Nat→Option Nat} {fz:List Nat} {tl:List (Nat × D)} {hl:List (Nat × Option (List C))} {S:Ms} (h:Mq m r fz tl hl S) (lg lg':Lg):Sub m nt ⟨S.tm,S.hp,lg⟩ ⟨tOf tl,hOf hl,lg'⟩:=fun I w s a hR=>by
  obtain ⟨H',E'⟩:=h.subH.sim hR.H
  exact ⟨_,_,⟨H',fun n d hd=>by
    obtain ⟨d',h1,h2⟩:=h.1.at n d hd
    exact DM.rd hR.H d d' h2 (hR.tm n d' h1),hR.df,hR.sz⟩,E'⟩
theorem XK.subQ {all : Array Oper} {i : Nat} {rest : List Oper} {lg : Lg} {nx0 : Nat} {k : List Item} {S : Ms} {r : Nat → Option Nat} {fz : List Nat} {tl : List (Nat × D)} {hl : List (Nat × Option (List C))} (h : Mq m r fz tl hl S)
    (hn:XK K P m f nt R (some ⟨all,false,i,rest,lg,nx0⟩) k ⟨tOf tl,hOf hl,S.nx⟩):XK K P m f nt R (some ⟨all,false,i,rest,lg,nx0⟩) k S :=
  XK.sub (S':=⟨tOf tl,hOf hl,S.nx⟩) (lg':=lg) (h.sub lg lg) hn
theorem Go.subQ {r:Nat→Option Nat} {fz:List Nat} {tl:List (Nat × D)} {hl:List (Nat × Option (List C))} {S:Ms} {k:List Item} (nx:Nat) (h:Mq m r fz tl hl S) (hg:Go K P m f nt R k ⟨tOf tl,hOf hl,nx⟩):Go K P m f nt R k S:=fun I w s a hR cs=>by
  obtain ⟨H',E'⟩:=h.subH.sim hR.H
  have hR':Rc (subI fz S.hp s I) w (subS r (hOf hl) s) a (tOf tl) (hOf hl) nt:=⟨H',fun n d hd=>by
    obtain ⟨d',h1,h2⟩:=h.1.at n d hd
    exact DM.rd hR.H d d' h2 (hR.tm n d' h1),hR.df,hR.sz⟩
  obtain ⟨v,w',fr,I',s',d,h',g1,g2,g3,g4,g5,g6,g7⟩:=hg _ w _ a hR' cs
  exact ⟨v,w',fr,I',s',d,h',g1,g2,g3,E'.transG hR.H g4,g5,g6,g7⟩
theorem Go.loopQ {X : Type} {c : Code} {k : List Item} (tl : X → List (Nat × D)) (hl : X → List (Nat × Option (List C))) (nx : Nat) (Inv : X → Prop) (μ : X → Nat)
    (round:∀ x,Inv x→(∀ x' r fz S',Inv x'→μ x' < μ x→Mq m r fz (tl x') (hl x') S'→Go K P m f nt R (.inLoop c :: k) S')→Go K P m f nt R (.code c :: .inLoop c :: k) ⟨tOf (tl x),hOf (hl x),nx⟩) :
    ∀ x r fz S,Inv x→Mq m r fz (tl x) (hl x) S→Go K P m f nt R (.code (.loop c) :: k) S:=by
  intro x r fz S hI hM
  refine Go.loop (Go.subQ nx hM ?_)
  exact round x hI fun x' r' fz' S' hi' hlt hm'=>Go.rounds (P:=P) (m:=m) (f:=f) (nt:=nt) (R:=R) (c:=c) (k:=k) (fun x S=>Inv x∧∃ r fz,Mq m r fz (tl x) (hl x) S) μ (fun x S ⟨hi,r,fz,hm⟩ ih =>
    Go.subQ nx hm (round x hi fun x' r' fz' S' hi' hlt hm'=>ih x' S' hlt ⟨hi',r',fz',hm'⟩)) x' S' ⟨hi',r',fz',hm'⟩
end
def enumL : Nat → List (Option (List C)) → List (Nat × Option (List C))
  | _,[]=>[]
  | i,x :: r=>(i,x) :: enumL (i+1) r
theorem hOf_enumL : ∀ (h : List (Option (List C))) (i k : Nat), hOf (enumL i h) k = if i ≤ k then h[k - i]? else none
  | [],i,k=>by simp [enumL,hOf]
  | x :: r,i,k=>by
    simp only [enumL,hOf,upd]
    by_cases e:k=i
    · subst e;simp
    · rw [if_neg e,hOf_enumL r (i+1) k]
      by_cases h2:i≤k
      · rw [if_pos h2,if_pos (by omega),show k - i=(k - (i+1))+1 from by omega,List.getElem?_cons_succ]
      · rw [if_neg h2,if_neg (by omega)]
theorem hpL_enum (h:List (Option (List C))):hOf (enumL 0 h)=hpL h:=funext fun k=>by rw [hOf_enumL];simp [hpL]
theorem RetOb.ofQ {m : Nat} {R : D → List (Option (List C)) → Prop} {d : D} {hp : Hp} (r : Nat → Option Nat) (fz : List Nat) (d' : D) (h' : List (Option (List C)))
    (hM:DM (hOf (enumL 0 h')) r hp fz d' d∧HpOK (hOf (enumL 0 h')) r hp fz (enumL 0 h')∧LowOK r (hOf (enumL 0 h')) m∧(((enumL 0 h').filterMap fun p=>p.2.map fun _=>p.1).filterMap r).Nodup) (hR:R d' h') (hm:m≤h'.length):RetOb m R d hp:=by
  have h:Mq m r fz [] (enumL 0 h') ⟨fun _=>none,hp,0⟩:=⟨trivial,hM.2.1,hM.2.2.1,hM.2.2.2⟩
  exact RetOb.of r fz d' h' (hpL_enum h' ▸ h.subH) (hpL_enum h' ▸ hM.1) hR hm
section
variable {P:Program}
end
attribute [go_sem] andZ_1 andZ_2
attribute [go_sem] drv nxt gkey stp pop evT evP cst dnil sameInts Option.isNone peelB peelD
  setT_some setT_none updM ofArgs tOf hOf isFn fitsT retP retD oneD exitTo
  islen Option.isSome okP guardB bnd appUp rdKeys mslKey spendUp target lends cellsOf
  partsS bld D.cells grab putCells Option.map if_true if_false ite_true ite_false dbin dint
  dun dstr dshift Op.operands Call.operands Bool.false_eq_true List.map DB DI DS Array.toList false_imp_iff
  true_and and_true forall_const dite_true Array.size List.length or_self Func.body Nat.add_eq beq_self_eq_true decide_true decide_false
  Array.append List.append List.cons_append List.nil_append Array.append_assoc List.push_toArray List.append_toArray List.size_toArray List.getElem?_cons_zero List.getElem?_cons_succ List.drop_zero List.take_zero
  Int.toNat_natCast Int.toNat_zero List.getElem?_map List.length_map Option.bind List.all_nil List.all_cons Bool.and_true Bool.and_self one List.drop_succ_cons List.take_succ_cons
  List.length_cons List.length_nil bne_iff_ne bne_eq_false_iff_eq beq_iff_eq beq_eq_false_iff_ne decide_eq_true_eq decide_eq_false_iff_not Bool.not_eq_true Bool.not_eq_false Int.not_lt Int.not_le
  Int.ofNat_lt Nat.not_lt ne_eq Classical.not_not cond_true cond_false true_or or_true false_or or_false List.set_cons_zero renD
  renDs renC renCs upsFrom rkey rk0 List.getD_cons_zero List.getD_cons_succ Int.add_sub_cancel List.map_take Nat.le_refl Nat.sub_zero
  Nat.sub_self Option.toArray_none Option.toArray_some List.append_nil Array.append_empty Array.empty_append Nat.zero_mul Int.mul_zero Int.zero_mul not_true_eq_false not_false_eq_true Nat.mul_one
  Nat.one_mul List.length_set wkey hpL List.getElem?_nil Nat.zero_le Nat.add_zero Nat.zero_add Int.add_zero Int.zero_add Bool.true_and Bool.false_and
  implies_true imp_self and_self beq_tt beq_ff Bool.cond_false_right Bool.cond_true_right Bool.cond_true_left Bool.cond_false_left Bool.and_eq_true Bool.and_eq_false_imp Bool.or_eq_true
  Bool.or_eq_false_iff Bool.not_eq_eq_eq_not Bool.not_true Bool.not_false List.getElem?_toArray Option.bind_some List.set_cons_succ Int.natCast_nonneg Int.natCast_add Int.natCast_one Int.cast_ofNat_Int mayUp kfs kf
  Pg.cells Ex.cells St1.cells isI Ex.cellsL_length Ex.cellsL_get St1.cellsL_length St1.cellsL_get
attribute [go_sem_proc] reduceIte reduceCtorEq Nat.reduceAdd Nat.reduceMul Nat.reduceSub Nat.reduceEqDiff Nat.reduceBEq Nat.reduceLT Int.reduceToNat Int.reduceLE Int.reduceLT Nat.reduceLeDiff Int.reduceBEq Int.reduceEq Int.reduceBNe Int.reduceAdd
theorem frU {f:Hp} {n b:Nat} {x:Option (Option (List C))} (h:∀ j,j<64→f (b+j)=none) (hn:n<b∨b+64≤n):∀ j,j<64→upd f n x (b+j)=none:=fun j hj=>by
  rw [upd_ne _ _ (by omega)];exact h j hj
theorem frL {h:List (Option (List C))} {b:Nat} (hl:h.length≤b):∀ j,j<64→hpL h (b+j)=none:=fun j hj=>by
  simp only [hpL];exact List.getElem?_eq_none (by omega)
theorem frO {b:Nat}:∀ j,j<64→hOf [] (b+j)=none:=fun _ _=>rfl
theorem hbT {hp : Hp} {nx0 i : Nat} (_u : Unit) (h : ∀ j, j < 64 → hp (wkey nx0 i + j) = none := by first | (intro j hj; rfl) | ((repeat (first | exact frL (by simp) | exact frO | refine frU ?_ (by simp only [wkey]; omega))); done) | (intro j hj; simp only [upd, wkey, hpL, hOf, List.getElem?_nil]; (repeat rw [if_neg (by omega)]); done) | (intro j hj; simp only [upd, wkey, hpL, hOf, List.getElem?_nil]; (repeat' split) <;> first | (exfalso; omega) | rfl | (apply List.getElem?_eq_none; simp only [List.length_cons, List.length_nil]; omega))) :
    ∀ j,j<64→hp (wkey nx0 i+j)=none:=h
theorem sd {a:Prop} (ha:a:=by ((repeat' with_reducible apply And.intro)<;>first | omega | (simp only [InK];omega) | (intro k e;cases e;rfl) | (intro hguard;exact ⟨hguard,by simp only [InK];omega⟩) | kernel_rfl)):a:=ha
section
variable {P:Program}
theorem DC.args {F:FuncId} {as as':List D} {h:List (Option (List C))} {R:D→List (Option (List C))→Prop} (hs:∀ I w s vs,RDs I w s vs as'→RDs I w s vs as) (hD:DC P F as h R):DC P F as' h R :=
  fun I w s vs H hv=>hD I w s vs H (hs I w s vs hv)
theorem RC.nil {I:Nat→Prop} {w:World} {s:Sg} {x:Value} {sz:Nat} (h:RC I w s x (.v (.slice none 0 0))):RC I w s x (.isl sz []):=by
  cases h with | v _ _ _=>exact .isl0 _ none 0 sz
end
def frC (k sz : Nat) (xs : List (List C)) : C → C
  | .msl k' sz' off len=>(match Nat.beq k' k && Nat.beq off 0 && Nat.beq sz' sz && Nat.beq len xs.length with | true => .isl sz xs | false => .msl k' sz' off len)
  | c=>c
def frD (k sz : Nat) (xs : List (List C)) : D → D
  | .c x => .c (frC k sz xs x)
  | .agg cs => .agg (cs.map (frC k sz xs))
  | d=>d
def frT (k sz:Nat) (xs:List (List C)) (tm:Nat→Option D):Nat→Option D:=fun n=>(tm n).map (frD k sz xs)
section
variable {m nt:Nat} {I:Nat→Prop} {w:World} {s:Sg} {hp:Hp}
variable {K:Bool} {P:Program} {f:FuncId} {R:D→List (Option (List C))→Prop}
end
attribute [go_sem] frT frD frC
section
variable {K:Bool} {P:Program} {m:Nat} {f:FuncId} {nt:Nat} {R:D→List (Option (List C))→Prop}
theorem XK.p {all : Array Oper} {dr : Bool} {i : Nat} {o : Oper} {rest : List Oper} {lg : Lg} {nx0 : Nat} {k : List Item} {S : Ms} {F : FuncId} {args : List D} {d0 : D}
    (hD:DC P F args [] (fun d h'=>d=d0∧h'=[])) (hfn:fnOK P F=true)
    (next:XK K P m f nt R (some ⟨all,dr,i+1,rest,upd lg i (some ([],[])),nx0⟩) k ⟨setT S.tm o.dst (some d0),S.hp,S.nx⟩)
    (hop:o.op = .call (getCall o):=by rfl) (hg:o.guard=none:=by rfl) (hc:calleeOf S.tm (getCall o)=some (F,args.map (renD (rk0 [] (wkey nx0 i)))):=by rfl) (hok:okB S.tm (getCall o).operands.toList=true:=by rfl)
    (hren:renD (rkey [] (wkey nx0 i)) d0=d0:=by rfl) (hm:m≤wkey nx0 i:=by first | exact Nat.zero_le _ | (simp only [wkey];decide)) (hf:fitsT nt o.dst=true:=by rfl)
    (hb:∀ j,j<64→S.hp (wkey nx0 i+j)=none:=by exact hbT ()) (hdr:dr=true→lgok nx0 all lg i [] []=true:=by first | (intro h;cases h;done) | (intro _;kernel_rfl)) :
    XK K P m f nt R (some ⟨all,dr,i,o :: rest,lg,nx0⟩) k S :=
  XK.pure hD (getCall o) hop hg hc (okP_of hok) hfn hm hb hf hdr (by rw [hren];exact next)
theorem XK.gp {all : Array Oper} {dr : Bool} {i : Nat} {o : Oper} {rest : List Oper} {lg : Lg} {nx0 : Nat} {k : List Item} {S : Ms} {F : FuncId} {args : List D} {d0 : D} {g : Nat} {b x : Bool}
    (hD:DC P F args [] (fun d h'=>d=d0∧h'=[])) (hfn:fnOK P F=true)
    (next:XK K P m f nt R (some ⟨all,dr,i+1,rest,upd lg i (some ([],[])),nx0⟩) k ⟨setT S.tm o.dst (some (.when x d0)),S.hp,S.nx⟩)
    (hop:o.op = .call (getCall o):=by rfl) (hg:o.guard=some (g,b):=by rfl) (hc:calleeOf S.tm (getCall o)=some (F,args.map (renD (rk0 [] (wkey nx0 i)))):=by rfl)
    (hx:guardB all S.tm g b=some x:=by rfl)
    (hok:x=true→okP S.tm (getCall o).operands.toList:=by intro hx;simp [okP,getCall,Call.operands,evT,upd,peelB,DB,DI,cst,one] at hx ⊢;first | done | exact hx | (simp_all;done) | omega)
    (hren:renD (rkey [] (wkey nx0 i)) d0=d0:=by rfl) (hm:m≤wkey nx0 i:=by first | exact Nat.zero_le _ | (simp only [wkey];decide))
    (hcf:∃ f,(getCall o).callee = .value f:=by exact ⟨_,rfl⟩) (hf:fitsT nt o.dst=true:=by rfl)
    (hb:∀ j,j<64→S.hp (wkey nx0 i+j)=none:=by exact hbT ()) (hdr:dr=true→lgok nx0 all lg i [] []=true:=by first | (intro h;cases h;done) | (intro _;kernel_rfl)) :
    XK K P m f nt R (some ⟨all,dr,i,o :: rest,lg,nx0⟩) k S :=
  XK.gpure g b x (getCall o) hg hx hop hcf (fun e=>⟨F,args,hc,hok e,hfn,hD,hren⟩) hm hb hf hdr next
theorem XK.gs {all : Array Oper} {dr : Bool} {i : Nat} {o : Oper} {rest : List Oper} {lg : Lg} {nx0 : Nat} {k : List Item} {S : Ms} {g : Nat} {b : Bool} (d0 : D)
    (next:XK K P m f nt R (some ⟨all,dr,i+1,rest,upd lg i (some ([],[])),nx0⟩) k ⟨setT S.tm o.dst (some (.when false d0)),S.hp,S.nx⟩)
    (hop:o.op = .call (getCall o):=by rfl) (hg:o.guard=some (g,b):=by rfl)
    (hx:guardB all S.tm g b=some false:=by first | rfl | (simp [guardB,evT,upd,peelB,peelD,DB,DI];done))
    (hm:m≤wkey nx0 i:=by first | exact Nat.zero_le _ | (simp only [wkey];decide))
    (hcf:∃ f,(getCall o).callee = .value f:=by exact ⟨_,rfl⟩) (hf:fitsT nt o.dst=true:=by rfl)
    (hb:∀ j,j<64→S.hp (wkey nx0 i+j)=none:=by exact hbT ()) (hdr:dr=true→lgok nx0 all lg i [] []=true:=by first | (intro h;cases h;done) | (intro _;kernel_rfl)) :
    XK K P m f nt R (some ⟨all,dr,i,o :: rest,lg,nx0⟩) k S :=
  XK.gpure g b false (getCall o) hg hx hop hcf (fun e=>by cases e) hm hb hf hdr next
end
def HH (hp : Hp) (r : Nat → Nat) : List Nat → List (Option (List C)) → Prop
  | [],[]=>True
  | k :: ks,h :: hs=>hp k=some (h.map (renCs r))∧HH hp r ks hs
  | _,_=>False
theorem hhpG {hp : Hp} {r : Nat → Nat} : ∀ {ks : List Nat} {hs : List (Option (List C))}, HH hp r ks hs → ∀ i' x, hs[i']? = some x → hp (ks.getD i' 0) = some (x.map (renCs r))
  | [],[],_,i',x,hx=>by simp at hx
  | k :: ks,h :: hs,hh,0,x,hx=>by simp only [List.getElem?_cons_zero,Option.some.injEq] at hx;subst hx;exact hh.1
  | k :: ks,h :: hs,hh,i' + 1,x,hx=>by
    have:=hhpG hh.2 i' x (by simpa using hx)
    simpa using this
section
variable {K:Bool} {P:Program} {m:Nat} {f:FuncId} {nt:Nat} {R:D→List (Option (List C))→Prop}
end
end Go.CT
