/- Contracts of functions of the program, one behind the other, as plain data: what each call returns and which blocks it leaves. -/
import Derived.Test.YtbknljofedfpjaaXFacts
import Derived.Test.YtbknljofedfpjaaXAi
import Derived.Test.YtbknljofedfpjaaXAl
import Derived.Test.YtbknljofedfpjaaXAm
import Derived.Test.YtbknljofedfpjaaXAn
import Derived.Test.YtbknljofedfpjaaXAo
import Derived.Test.YtbknljofedfpjaaXAp
import Derived.Test.YtbknljofedfpjaaXAq
import Derived.Test.YtbknljofedfpjaaXAj
set_option linter.unusedVariables false
set_option linter.unusedSimpArgs false
set_option linter.unusedSectionVars false
set_option maxHeartbeats 16000000
set_option maxRecDepth 100000
namespace Go.Proofs.Ytbknljofedfpjaa.CtD
open Go Go.CT CtF CtR
variable [Yn]
def st0 (w:Nat):List Nat:=(List.range w).map fun i=>2 ^ i
theorem st0_len (w:Nat):(st0 w).length=w:=by simp [st0]
theorem st0_succ {w i:Nat} (h:i<w):rowsC w ((st0 w).take (i+1))=rowsC w ((st0 w).take i)++[boolsD (bl w (2 ^ i))] :=
  rowsC_succ w (st0 w) i (2 ^ i) (by simp [st0,h])
theorem bl_one {w i:Nat} (h:i<w):(boolsC (bl w 0)).set i (.v (.bool true))=boolsC (bl w (2 ^ i)):=by
  rw [boolsC_set]
  congr 1
  refine bl_ext (by simp [bl_len]) fun j hj=>?_
  rw [List.getD_eq_getElem?_getD,List.getElem?_set]
  by_cases e:i=j
  · subst e;simp [bl_len,h]
  · rw [if_neg e,← bl_zero,List.getElem?_replicate,if_pos hj,Nat.testBit_two_pow];simp [e]
theorem startS {w : Nat} (p : Pg) (hw : p.vars.length + p.arrays.length = w) (hw14 : w ≤ 14) (w0 : 0 < w) : DC Try.prog 24 [.agg p.cells] []
    (fun r h=>r = .agg (p.cells++[rowsD w (startD w).sets,.msl 0 1 0 w,.msl 1 1 0 w])∧h=[some (boolsC (bl w 0)),some (boolsC (bl w 0))]):=by
  have hmx:=mx_eq
  have hce:=cellsS p (by omega) (by omega)
  rw [hw] at hce
  obtain ⟨vs,ar,bd⟩:=p
  have hw:vs.length+ar.length=w:=hw
  generalize hR:(fun (r:D) (h:List (Option (List C)))=>r = .agg _∧h=_)=R
  have hz:boolsC (List.replicate w false)=boolsC (bl w 0):=by rw [bl_zero]
  refine dcZ Try.func24 ?_
  simp only [go_sem]
  iterate 4 ((try (refine drvZ Try.func24 ?_;simp only [go_sem,boolsC_rep,bl_zero]));((with_reducible and_intros)<;>try exact sd);(try first | refine XK.p hce ok26 ?_ | refine XK.gp hce ok26 ?_))
  refine Go.loopQ (fun i : Nat => [(2, .c (.ptr 64 0)), (3, DI .i64 w), (4, .c (.ptr 704 0)), (5, DI .i64 i)])
    (fun i=>[(64,some [.v (.slice none 0 0),.v (.slice none 0 0),.v (.slice none 0 0),.v (.slice none 0 0),.v (.slice none 0 0),.v (.slice none 0 0)]),(448,some (boolsC (bl w 0))),(576,some (boolsC (bl w 0))),(704,some (Pg.cells ⟨vs,ar,bd⟩++[.msl 800 1 0 i,.msl 448 1 0 w,.msl 576 1 0 w])),(800,some (rowsC w ((st0 w).take i)))])
    4096 (fun i=>i≤w) (fun i=>w - i) ?_ 0 (fun j=>if j=800 then none else some j) [] _ (Nat.zero_le _) ?_
  · intro i hi again
    have hcl:=rowsC_len w ((st0 w).take i)
    rw [List.length_take,st0_len,Nat.min_eq_left hi] at hcl
    rcases Nat.lt_or_ge i w with hlt | hge
    · have hbo:=bl_one hlt
      have hsn:=st0_succ hlt
      have hbl:=bl_len w 0
      have hbc:=boolsC_len (bl w 0)
      rw [hbl] at hbc
      refine drvL Try.func24 ?_
      simp only [go_sem,hlt,boolsC_rep,bl_zero]
      iterate 3 ((try (refine drvZ Try.func24 ?_;simp only [go_sem,hlt,boolsC_rep,bl_zero,hbo,hcl,hbc]));((with_reducible and_intros)<;>try exact sd))
      refine again (i+1) (fun j=>if j=800 then some 4992 else some j) [4352] _ hlt (by omega) ?_
      rw [hsn]
      simp only [go_sem,TmOK,DM,DMs,CM,CMs,forall_eq,exists_eq_left,Mq,HpOK,LowOK]
      repeat' with_reducible apply And.intro
      all_goals first | exact CMs.kf (boolsC_kf _) | (simp;done) | exact CMs.app (CMs.kf (rowsC_kf _ _)) ⟨cm_bools (by simp) rfl,by simp [CMs]⟩ | skip
    · have hn:¬ i<w:=by omega
      obtain rfl:w=i:=by omega
      rw [List.take_of_length_le (by rw [st0_len];omega)]
      refine drvL Try.func24 ?_
      simp only [go_sem,hn]
      iterate 2 ((try (refine drvZ Try.func24 ?_;simp only [go_sem,hn]));((with_reducible and_intros)<;>try exact sd))
      refine RetOb.ofQ (fun j=>if j=0 then some 448 else if j=1 then some 576 else none) [800] (.agg (Pg.cells ⟨vs,ar,bd⟩++[rowsD w (startD w).sets,.msl 0 1 0 w,.msl 1 1 0 w])) [some (boolsC (bl w 0)),some (boolsC (bl w 0))] ?_ (by rw [← hR];exact ⟨rfl,rfl⟩) (by simp)
      simp only [enumL,DM,DMs,HpOK,LowOK,hOf,upd,hpL,Pg.cells,isI,I64,List.cons_append,List.nil_append,CMs]
      repeat' with_reducible apply And.intro
      all_goals first | exact cm_rows (by simp) rfl (st0_len w) | exact CM.kf rfl | exact CMs.kf (boolsC_kf _) | (simp [CM,upd];done) | (simp;exact CMs.kf (boolsC_kf _)) | skip
  · simp only [go_sem,TmOK,DM,DMs,CM,CMs,forall_eq,exists_eq_left,Mq,HpOK,LowOK]
    simp
    repeat' with_reducible apply And.intro
    all_goals first | exact CMs.kf (boolsC_kf _) | (simp [rowsC,CMs];done) | skip
theorem depP_eq (p:Pg) {w:Nat} (hw:p.vars.length+p.arrays.length=w):foldD p.vars.length 5 0 p.body (startD w)=depP p:=by rw [← hw];rfl
theorem dependsOnSG (p:Pg) {w:Nat} (hw:p.vars.length+p.arrays.length=w) (hw14:w≤14) (w0:0<w) (hown:DC Try.prog 22 [.agg p.cells] [] (fun r h=>r = .agg p.cells∧h=[])) (hsz:lsize 5 p.body≤1099511627776) (hok:progOK p=true):DC Try.prog 6 [.agg p.cells] [] (fun r h=>r = .c (rowsD w (depP p).sets)∧h=[]):=by
  have hmx:=mx_eq
  have hv:=programValidS p (by omega) (by omega) hsz
  rw [hok] at hv
  have hst:=startS p hw hw14 w0
  have hbk:=blockD p hw hw14 w0 5 p.body (startD w) 0 (start_ok hw14) (Nat.two_pow_pos w) (body_of hok).1 (by have:=(body_of hok).2;omega)
  rw [depP_eq p hw] at hbk
  have hce:=cellsS p (by omega) (by omega)
  rw [hw] at hce
  generalize depP p=X at *
  obtain ⟨xs,xt,xr⟩:=X
  obtain ⟨vs,ar,bd⟩:=p
  generalize hR:(fun (r:D) (h:List (Option (List C)))=>r = .c _∧h=[])=R
  simp only at hbk
  refine dcZ Try.func6 ?_
  simp only [go_sem]
  iterate 6 ((try (refine drvZ Try.func6 ?_;simp only [go_sem]));((with_reducible and_intros)<;>try exact sd);(try first | refine XK.p hown ok22 ?_ | refine XK.gp hown ok22 ?_ | refine XK.p hv ok23 ?_ | refine XK.gp hv ok23 ?_))
  refine XK.callG [] hst ok24 (fun i' x h=>by simp at h) (hbT ()) (fun d h' ⟨_,e⟩=>by subst e;simp) ?_
  rintro _ _ ⟨rfl,rfl⟩ _
  iterate 4 ((try (refine drvZ Try.func6 ?_;simp only [go_sem,boolsC_ren,rowsD,boolsC_rep,bl_zero]));((with_reducible and_intros)<;>try exact sd);(try first | refine XK.p hce ok26 ?_ | refine XK.gp hce ok26 ?_))
  refine XK.callG [576,577,1088] hbk ok25 (hhpG (by simp [HH,upd,hOf,boolsC_ren,startD])) (hbT ()) (fun d h' ⟨_,e⟩=>by subst e;simp) ?_ (fun _=>⟨by kernel_rfl,_,_,⟨rfl,rfl⟩,by simp⟩)
  rintro _ _ ⟨rfl,rfl⟩ _
  iterate 3 ((try (refine drvZ Try.func6 ?_;simp only [go_sem,boolsC_ren,rowsD]));((with_reducible and_intros)<;>try exact sd))
  exact RetOb.plain (d := .c (rowsD w xs)) (by rw [← hR];exact ⟨rfl,rfl⟩) rfl
theorem dependsOnS0G (p:Pg) (hown:DC Try.prog 22 [.agg p.cells] [] (fun r h=>r = .agg p.cells∧h=[])) (hnv:p.vars.length≤2000000) (hna:p.arrays.length≤2000000) (hsz:lsize 5 p.body≤1099511627776) (hok:progOK p=false):DC Try.prog 6 [.agg p.cells] [] (fun r h=>r = .c (.isl 1 [])∧h=[]):=by
  have hmx:=mx_eq
  have hv:=programValidS p (by omega) (by omega) hsz
  rw [hok] at hv
  obtain ⟨vs,ar,bd⟩:=p
  generalize hR:(fun (r:D) (h:List (Option (List C)))=>r = .c (.isl 1 [])∧h=[])=R
  refine dcZ Try.func6 ?_
  simp only [go_sem]
  iterate 6 ((try (refine drvZ Try.func6 ?_;simp only [go_sem]));((with_reducible and_intros)<;>try exact sd);(try first | refine XK.p hown ok22 ?_ | refine XK.gp hown ok22 ?_ | refine XK.p hv ok23 ?_ | refine XK.gp hv ok23 ?_))
  refine RetOb.frozen (R:=R) (sz:=1) (xs:=[]) (by rw [← hR];exact ⟨rfl,rfl⟩) ?_ rfl (by simp) (by simp)
  simp [upd]
theorem dependsOnI0 (p:Pg) (hl:p.vars.length≤mx) (hl2:p.arrays.length≤mx) (hok:progOK p=false):DC Try.prog 8 [.agg p.cells] [] (fun r h=>r = .c (.isl 1 [])∧h=[]):=by
  have hmx:=mx_eq
  have hv:=programValidI p hl hl2
  rw [hok] at hv
  obtain ⟨vs,ar,bd⟩:=p
  generalize hR:(fun (r:D) (h:List (Option (List C)))=>r = .c (.isl 1 [])∧h=[])=R
  refine dcZ Try.func8 ?_
  simp only [go_sem]
  iterate 4 ((try (refine drvZ Try.func8 ?_;simp only [go_sem]));((with_reducible and_intros)<;>try exact sd);(try first | refine XK.p hv ok29 ?_ | refine XK.gp hv ok29 ?_))
  refine RetOb.ofQ (fun j=>none) [] (.c (.isl 1 [])) [] ?_ (by rw [← hR];exact ⟨rfl,rfl⟩) (by simp)
  simp [enumL,DM,CM,HpOK,LowOK]
end Go.Proofs.Ytbknljofedfpjaa.CtD
namespace Go.Proofs.Ytbknljofedfpjaa.CtR
variable [Go.CT.Yn]
open Go Go.CT CtF
end Go.Proofs.Ytbknljofedfpjaa.CtR
namespace Go.Proofs.Ytbknljofedfpjaa.CtL
variable [Go.CT.Yn]
open Go Go.CT CtF CtR
def e0:Ex := .mk 0 0 []
open Go Go.CT CtF CtR
open Go Go.CT CtF CtR
open Go Go.CT CtF CtR
def Ext (p:Pg) (vs:List Int):Prop:=∃ w,vs=p.vars++w
theorem Ext.more {p:Pg} {vs ws:List Int} (h:Ext p vs) (h2:∃ w,ws=vs++w):Ext p ws:=by
  obtain ⟨a,rfl⟩:=h
  obtain ⟨b,rfl⟩:=h2
  exact ⟨a++b,by simp⟩
theorem Ext.le {p:Pg} {vs:List Int} (h:Ext p vs):p.vars.length≤vs.length:=by
  obtain ⟨a,rfl⟩:=h
  simp
open Go Go.CT CtF CtR
open Go Go.CT CtF CtR
def Sub (a b:Nat):Prop:=∀ β,a.testBit β=true→b.testBit β=true
theorem Sub.refl (a:Nat):Sub a a:=fun _ h=>h
theorem Sub.trans {a b c:Nat} (h:Sub a b) (g:Sub b c):Sub a c:=fun β x=>g β (h β x)
theorem Sub.zero (a:Nat):Sub 0 a:=fun β h=>by simp at h
theorem Sub.or {a b c:Nat}:Sub (a ||| b) c ↔ Sub a c∧Sub b c:=by
  constructor
  · exact fun h=>⟨fun β x=>h β (by simp [x]),fun β x=>h β (by simp [x])⟩
  · rintro ⟨h1,h2⟩ β x
    rw [Nat.testBit_or,Bool.or_eq_true] at x
    exact x.elim (h1 β) (h2 β)
theorem Sub.left (a b:Nat):Sub a (a ||| b):=fun β h=>by simp [h]
theorem Sub.right (a b:Nat):Sub b (a ||| b):=fun β h=>by simp [h]
theorem Sub.l {a b c:Nat} (h:Sub a b):Sub a (b ||| c):=h.trans (Sub.left _ _)
theorem Sub.r {a b c:Nat} (h:Sub a c):Sub a (b ||| c):=h.trans (Sub.right _ _)
open Go Go.CT CtF CtR
open Go Go.CT CtF CtR
open Go Go.CT CtF CtR
open Go Go.CT CtF CtR
open Go Go.CT CtF CtR
structure In where
  op:Int
  a:Int
  b:Int
  c:Int
  d:Int
def halt:In:=⟨13,0,0,0,0⟩
def stp (X:List Ev):Nat:=X.countP fun e=>e.kind == 5
def At (C:List In) (b:Nat) (L:List In):Prop:=∃ pre post,C=pre++L++post∧pre.length=b
theorem At.left {C:List In} {b:Nat} {L R:List In} (h:At C b (L++R)):At C b L:=by
  obtain ⟨pre,post,rfl,hl⟩:=h
  exact ⟨pre,R++post,by simp,hl⟩
theorem At.right {C:List In} {b n:Nat} {L R:List In} (h:At C b (L++R)) (hn:L.length=n):At C (b+n) R:=by
  obtain ⟨pre,post,rfl,hl⟩:=h
  exact ⟨pre++L,post,by simp,by simp [hl,hn]⟩
theorem At.head {C:List In} {b:Nat} {x:In} {R:List In} (h:At C b (x :: R)):C[b]? = some x:=by
  obtain ⟨pre,post,rfl,hl⟩:=h
  subst hl;simp
open Go Go.CT CtF CtR
open Go Go.CT CtF CtR
open Go Go.CT CtF CtR
end Go.Proofs.Ytbknljofedfpjaa.CtL
namespace Go.Proofs.Ytbknljofedfpjaa.CtD
open Go Go.CT CtF CtR
variable [Yn]
open CtL (In)
open CtL (In)
end Go.Proofs.Ytbknljofedfpjaa.CtD
namespace Go.Proofs.Ytbknljofedfpjaa.CtL
variable [Go.CT.Yn]
open Go Go.CT CtF CtR
end Go.Proofs.Ytbknljofedfpjaa.CtL
namespace Go.Proofs.Ytbknljofedfpjaa.CtD
open Go Go.CT CtF CtR
variable [Yn]
mutual
def szE : Ex → Nat
  | .mk _ _ ks=>szEL ks
def szEL : List Ex → Nat
  | []=>0
  | e :: r=>(1+szE e)+szEL r
end
mutual
def szS : St1 → Nat
  | .mk _ _ ix v _ b e=>szE ix+szE v+szSL b+szSL e
def szSL : List St1 → Nat
  | []=>0
  | s :: r=>(1+szS s)+szSL r
end
theorem szEL_eq : ∀ l : List Ex, szEL l = (l.map fun e => 1 + szE e).sum
  | []=>rfl
  | e :: r=>by simp only [szEL,List.map_cons,List.sum_cons,szEL_eq r]
theorem szSL_eq : ∀ l : List St1, szSL l = (l.map fun e => 1 + szS e).sum
  | []=>rfl
  | e :: r=>by simp only [szSL,List.map_cons,List.sum_cons,szSL_eq r]
def szP (p:Pg):Nat:=p.vars.length+p.arrays.length+szSL p.body
def subZ (left:Int) (n:Nat):Int:=if (n:Int)≤left then left - n else -1
theorem sum_split {α : Type} (f : α → Nat) : ∀ l : List α, (l.map fun e => 1 + f e).sum = l.length + (l.map f).sum
  | []=>rfl
  | a :: r=>by simp only [List.map_cons,List.sum_cons,List.length_cons,sum_split f r];omega
theorem sum_take {α:Type} (f:α→Nat) {l:List α} {i:Nat} {x:α} (h:l[i]? = some x):((l.take (i+1)).map f).sum=((l.take i).map f).sum+f x∧((l.take i).map f).sum+f x≤(l.map f).sum:=by
  have hi:i<l.length:=(List.getElem?_eq_some_iff.1 h).1
  have hx:l[i]=x:=(List.getElem?_eq_some_iff.1 h).2
  have e:l.take (i+1)=l.take i++[x]:=by rw [List.take_succ_eq_append_getElem hi,hx]
  refine ⟨by rw [e];simp,?_⟩
  have e2:(l.map f).sum=((l.take (i+1)).map f).sum+((l.drop (i+1)).map f).sum:=by
    rw [← List.sum_append,← List.map_append,List.take_append_drop]
  rw [e2,e];simp
inductive ExB : Ex → Prop
  | mk (k v:Int) (ks:List Ex) (h:ks.length≤mx) (hk:∀ e ∈ ks,ExB e):ExB (.mk k v ks)
inductive StB : St1 → Prop
  | mk (k t:Int) (ix v:Ex) (c:Int) (b e:List St1) (h1:ExB ix) (h2:ExB v) (h3:b.length≤mx) (h4:e.length≤mx) (h5:∀ s ∈ b,StB s) (h6:∀ s ∈ e,StB s):StB (.mk k t ix v c b e)
structure PgB (p : Pg) : Prop where
  nv:p.vars.length≤mx
  na:p.arrays.length≤mx
  nb:p.body.length≤mx
  st:∀ s ∈ p.body,StB s
inductive ExN : Ex → Prop
  | mk (k v:Int) (ks:List Ex) (h:ks.length≤1048576) (hk:∀ e ∈ ks,ExN e):ExN (.mk k v ks)
inductive StN : St1 → Prop
  | mk (k t:Int) (ix v:Ex) (c:Int) (b e:List St1) (h1:ExN ix) (h2:ExN v) (h3:b.length≤1048576) (h4:e.length≤1048576) (h5:∀ s ∈ b,StN s) (h6:∀ s ∈ e,StN s):StN (.mk k t ix v c b e)
theorem mem_sum {α : Type} (f : α → Nat) : ∀ {l : List α} {x : α}, x ∈ l → f x + 1 ≤ (l.map fun e => 1 + f e).sum
  | a :: r,x,h=>by
    simp only [List.map_cons,List.sum_cons]
    rcases List.mem_cons.1 h with rfl | h
    · omega
    · have:=mem_sum f h;omega
theorem exN_of : ∀ (n : Nat) (e : Ex), SizeOf.sizeOf e ≤ n → szE e ≤ 1048576 → ExN e
  | 0,.mk k v ks,h,_=>by simp at h
  | n+1,.mk k v ks,h,hz=>by
    simp only [szE,szEL_eq] at hz
    have h1:=sum_split szE ks
    refine .mk k v ks (by omega) fun e he=>exN_of n e ?_ ?_
    · have:=List.sizeOf_lt_of_mem he
      simp only [Ex.mk.sizeOf_spec] at h;omega
    · have:=mem_sum szE he;omega
theorem stN_of : ∀ (n : Nat) (s : St1), SizeOf.sizeOf s ≤ n → szS s ≤ 1048576 → StN s
  | 0,.mk k t ix v c b e,h,_=>by simp at h
  | n+1,.mk k t ix v c b e,h,hz=>by
    simp only [szS,szSL_eq] at hz
    have h1:=sum_split szS b
    have h2:=sum_split szS e
    simp only [St1.mk.sizeOf_spec] at h
    refine .mk k t ix v c b e (exN_of _ ix (Nat.le_refl _) (by omega)) (exN_of _ v (Nat.le_refl _) (by omega)) (by omega) (by omega) (fun s hs=>stN_of n s ?_ ?_) (fun s hs=>stN_of n s ?_ ?_)
    · have:=List.sizeOf_lt_of_mem hs;omega
    · have:=mem_sum szS hs;omega
    · have:=List.sizeOf_lt_of_mem hs;omega
    · have:=mem_sum szS hs;omega
theorem put_at : ∀ (ds A B : List C), ds.length ≤ B.length → putCells (A ++ B) A.length ds = A ++ ds ++ B.drop ds.length
  | [],A,B,_=>by simp [putCells]
  | d :: r,A,[],h=>by simp at h
  | d :: r,A,b :: B,h=>by
    have e:(A++b :: B).set A.length d=(A++[d])++B:=by
      rw [List.set_append_right _ _ (Nat.le_refl _)];simp
    have ih:=put_at r (A++[d]) B (by simpa using h)
    simp only [putCells,e]
    rw [show A.length+1=(A++[d]).length by simp,ih]
    simp
theorem put_row {rows : List (List C)} {zs ds : List C} {m k i : Nat} (hz : zs.length = k) (hd : ds.length = k) (hr : (rows.flatten).length = i * k) :
    putCells (rows.flatten++(List.replicate (m+1) zs).flatten) (i * k) ds=(rows++[ds]).flatten++(List.replicate m zs).flatten:=by
  rw [← hr,put_at _ _ _ (by simp [List.replicate_succ,hz,hd])]
  simp [List.replicate_succ,hz,hd]
theorem szIntS (xs:List Int) (hl:xs.length≤mx) (left:Int) (h0:0≤left) (h1:left≤1048576):DC Try.prog 20 [.c (isI xs),DI .i64 left] [] (fun r h=>r=DI .i64 (subZ left xs.length)∧h=[]):=by
  have hmx:=mx_eq
  have ret:∀ (v:Int) (hp:Hp),v=subZ left xs.length→RetOb 0 (fun r h=>r=DI .i64 (subZ left xs.length)∧h=[]) (DI .i64 v) hp:=fun v hp h=>RetOb.plain (d:=DI .i64 _) ⟨by rw [h],rfl⟩ rfl
  generalize hR:(fun (r:D) (h:List (Option (List C)))=>r=DI .i64 (subZ left xs.length)∧h=[])=R at ret ⊢
  clear hR
  by_cases hq:(xs.length:Int)≤left
  · have g:(left - (xs.length:Int)<0)=False:=eq_false (by omega)
    refine dcZ Try.func20 ?_
    simp only [go_sem,List.length_map,g]
    iterate 4 ((try (refine drvZ Try.func20 ?_;simp only [go_sem,List.length_map,g]));((with_reducible and_intros)<;>try exact sd))
    exact ret _ _ (by rw [subZ,if_pos hq])
  · have g:(left - (xs.length:Int)<0)=True:=eq_true (by omega)
    refine dcZ Try.func20 ?_
    simp only [go_sem,List.length_map,g]
    iterate 4 ((try (refine drvZ Try.func20 ?_;simp only [go_sem,List.length_map,g]));((with_reducible and_intros)<;>try exact sd))
    exact ret _ _ (by rw [subZ,if_neg hq])
theorem szExprSOf (l : List (Ex)) (hl : l.length ≤ mx) (hc : ∀ x ∈ l, ∀ left : Int, 0 ≤ left → left ≤ 1048576 → DC Try.prog 66 [.agg x.cells, DI .i64 left] [] (fun r h => r = DI .i64 (subZ left (szE x)) ∧ h = [])) (left : Int) (h0 : 0 ≤ left) (h1 : left ≤ 1048576) :
    DC Try.prog 78 [.c (.isl 3 (Ex.cellsL l)),DI .i64 left] [] (fun r h=>r=DI .i64 (subZ left (szEL l))∧h=[]):=by
  have hmx:=mx_eq
  have ret:∀ (v:Int) (hp:Hp),v=subZ left (szEL l)→RetOb 0 (fun r h=>r=DI .i64 (subZ left (szEL l))∧h=[]) (DI .i64 v) hp:=fun v hp h=>RetOb.plain (d:=DI .i64 _) ⟨by rw [h],rfl⟩ rfl
  generalize hR:(fun (r:D) (h:List (Option (List C)))=>r=DI .i64 (subZ left (szEL l))∧h=[])=R at ret ⊢
  clear hR
  rw [szEL_eq,sum_split] at ret
  have hrl:(Ex.cellsL l).length=l.length:=by simp [Ex.cellsL_length]
  by_cases hq:(l.length:Int)≤left
  · have g:(left - (l.length:Int)<0)=False:=eq_false (by omega)
    refine dcZ Try.func78 ?_
    simp only [go_sem,hrl,g]
    iterate 4 ((try (refine drvZ Try.func78 ?_;simp only [go_sem,hrl,g]));((with_reducible and_intros)<;>try exact sd))
    refine Go.loopQ (fun i:Nat=>[(0,.c (.isl 3 (Ex.cellsL l))),(1,DI .i64 (left - l.length - ((l.take i).map (szE)).sum)),(5,DI .i64 i)]) (fun _=>[]) 1024 (fun i=>i≤l.length∧(l.length+((l.take i).map (szE)).sum:Int)≤left) (fun i=>l.length - i) ?_ 0 some [] _ ⟨by omega,by simpa using hq⟩ ?_
    · rintro i ⟨hi,hI⟩ again
      rcases Nat.lt_or_ge i l.length with hlt | hge
      · obtain ⟨x,hx⟩:∃ x,l[i]? = some x:=⟨l[i],by simp [hlt]⟩
        have hst:=sum_take (szE) hx
        have hcx:=hc x (List.mem_of_getElem? hx) (left - l.length - ((l.take i).map (szE)).sum) (by omega) (by omega)
        generalize hB:((l.take i).map (szE)).sum=B at *
        have hB2:=hst.1
        have hB3:=hst.2
        by_cases hq2:(szE x:Int)≤left - l.length - B
        · rw [subZ,if_pos hq2] at hcx
          have g2:(left - (l.length:Int) - (B:Int) - (szE x:Int)<0)=False:=eq_false (by omega)
          have hnx:left - (l.length:Int) - (((l.take (i+1)).map (szE)).sum:Int)=left - l.length - B - szE x:=by rw [hB2];omega
          generalize szE x=z at *
          obtain ⟨k0,v0,ks0⟩:=x
          have hxl:(Ex.cellsL l)[i]? = some [I64 k0,I64 v0,.isl 3 (Ex.cellsL ks0)]:=by rw [Ex.cellsL_eq,List.getElem?_map,hx];rfl
          simp only [Ex.cells,Ex.cells,List.cons_append,List.nil_append,List.append_assoc] at hcx
          generalize hRW:Ex.cellsL l=rows at *
          refine drvL Try.func78 ?_
          simp only [go_sem,hrl,hlt,hxl]
          iterate 6 ((try (refine drvZ Try.func78 ?_;simp only [go_sem,hrl,hlt,hxl,g2]));((with_reducible and_intros)<;>try exact sd);(try first | refine XK.p hcx ok66 ?_ | refine XK.gp hcx ok66 ?_))
          refine again (i+1) some [] _ ⟨hlt,by omega⟩ (by omega) ?_
          simp only [go_sem,TmOK,DM,DMs,CM,CMs,forall_eq,exists_eq_left,Mq,HpOK,LowOK]
          simp only [List.map_take] at hnx
          simp [hnx]
        · rw [subZ,if_neg hq2] at hcx
          have htot:¬ ((l.length+(l.map (szE)).sum:Nat):Int)≤left:=by omega
          generalize szE x=z at *
          obtain ⟨k0,v0,ks0⟩:=x
          have hxl:(Ex.cellsL l)[i]? = some [I64 k0,I64 v0,.isl 3 (Ex.cellsL ks0)]:=by rw [Ex.cellsL_eq,List.getElem?_map,hx];rfl
          simp only [Ex.cells,Ex.cells,List.cons_append,List.nil_append,List.append_assoc] at hcx
          generalize hRW:Ex.cellsL l=rows at *
          refine drvL Try.func78 ?_
          simp only [go_sem,hrl,hlt,hxl]
          iterate 6 ((try (refine drvZ Try.func78 ?_;simp only [go_sem,hrl,hlt,hxl]));((with_reducible and_intros)<;>try exact sd);(try first | refine XK.p hcx ok66 ?_ | refine XK.gp hcx ok66 ?_))
          exact ret _ _ (by rw [subZ,if_neg htot])
      · obtain rfl:i=l.length:=by omega
        have hn:¬ l.length<l.length:=by omega
        rw [List.take_length] at hI
        generalize hRW:Ex.cellsL l=rows at *
        simp only [List.take_length]
        refine drvL Try.func78 ?_
        simp only [go_sem,hrl,hn]
        iterate 3 ((try (refine drvZ Try.func78 ?_;simp only [go_sem,hrl,hn]));((with_reducible and_intros)<;>try exact sd))
        exact ret _ _ (by rw [subZ,if_pos (by omega)];omega)
    · simp only [go_sem,TmOK,DM,DMs,CM,CMs,forall_eq,exists_eq_left,Mq,HpOK,LowOK]
      try simp
  · have g:(left - (l.length:Int)<0)=True:=eq_true (by omega)
    refine dcZ Try.func78 ?_
    simp only [go_sem,hrl,g]
    iterate 4 ((try (refine drvZ Try.func78 ?_;simp only [go_sem,hrl,g]));((with_reducible and_intros)<;>try exact sd))
    exact ret _ _ (by rw [subZ,if_neg (by omega)])
theorem szStmtSOf (l : List (St1)) (hl : l.length ≤ mx) (hc : ∀ x ∈ l, ∀ left : Int, 0 ≤ left → left ≤ 1048576 → DC Try.prog 47 [.agg x.cells, DI .i64 left] [] (fun r h => r = DI .i64 (subZ left (szS x)) ∧ h = [])) (left : Int) (h0 : 0 ≤ left) (h1 : left ≤ 1048576) :
    DC Try.prog 21 [.c (.isl 11 (St1.cellsL l)),DI .i64 left] [] (fun r h=>r=DI .i64 (subZ left (szSL l))∧h=[]):=by
  have hmx:=mx_eq
  have ret:∀ (v:Int) (hp:Hp),v=subZ left (szSL l)→RetOb 0 (fun r h=>r=DI .i64 (subZ left (szSL l))∧h=[]) (DI .i64 v) hp:=fun v hp h=>RetOb.plain (d:=DI .i64 _) ⟨by rw [h],rfl⟩ rfl
  generalize hR:(fun (r:D) (h:List (Option (List C)))=>r=DI .i64 (subZ left (szSL l))∧h=[])=R at ret ⊢
  clear hR
  rw [szSL_eq,sum_split] at ret
  have hrl:(St1.cellsL l).length=l.length:=by simp [St1.cellsL_length]
  by_cases hq:(l.length:Int)≤left
  · have g:(left - (l.length:Int)<0)=False:=eq_false (by omega)
    refine dcZ Try.func21 ?_
    simp only [go_sem,hrl,g]
    iterate 4 ((try (refine drvZ Try.func21 ?_;simp only [go_sem,hrl,g]));((with_reducible and_intros)<;>try exact sd))
    refine Go.loopQ (fun i:Nat=>[(0,.c (.isl 11 (St1.cellsL l))),(1,DI .i64 (left - l.length - ((l.take i).map (szS)).sum)),(5,DI .i64 i)]) (fun _=>[]) 1024 (fun i=>i≤l.length∧(l.length+((l.take i).map (szS)).sum:Int)≤left) (fun i=>l.length - i) ?_ 0 some [] _ ⟨by omega,by simpa using hq⟩ ?_
    · rintro i ⟨hi,hI⟩ again
      rcases Nat.lt_or_ge i l.length with hlt | hge
      · obtain ⟨x,hx⟩:∃ x,l[i]? = some x:=⟨l[i],by simp [hlt]⟩
        have hst:=sum_take (szS) hx
        have hcx:=hc x (List.mem_of_getElem? hx) (left - l.length - ((l.take i).map (szS)).sum) (by omega) (by omega)
        generalize hB:((l.take i).map (szS)).sum=B at *
        have hB2:=hst.1
        have hB3:=hst.2
        by_cases hq2:(szS x:Int)≤left - l.length - B
        · rw [subZ,if_pos hq2] at hcx
          have g2:(left - (l.length:Int) - (B:Int) - (szS x:Int)<0)=False:=eq_false (by omega)
          have hnx:left - (l.length:Int) - (((l.take (i+1)).map (szS)).sum:Int)=left - l.length - B - szS x:=by rw [hB2];omega
          generalize szS x=z at *
          obtain ⟨k0,t0,⟨a1,b1,c1⟩,⟨a2,b2,c2⟩,c0,bd0,el0⟩:=x
          have hxl:(St1.cellsL l)[i]? = some [I64 k0,I64 t0,I64 a1,I64 b1,.isl 3 (Ex.cellsL c1),I64 a2,I64 b2,.isl 3 (Ex.cellsL c2),I64 c0,.isl 11 (St1.cellsL bd0),.isl 11 (St1.cellsL el0)]:=by rw [St1.cellsL_eq,List.getElem?_map,hx];rfl
          simp only [St1.cells,Ex.cells,List.cons_append,List.nil_append,List.append_assoc] at hcx
          generalize hRW:St1.cellsL l=rows at *
          refine drvL Try.func21 ?_
          simp only [go_sem,hrl,hlt,hxl]
          iterate 6 ((try (refine drvZ Try.func21 ?_;simp only [go_sem,hrl,hlt,hxl,g2]));((with_reducible and_intros)<;>try exact sd);(try first | refine XK.p hcx ok47 ?_ | refine XK.gp hcx ok47 ?_))
          refine again (i+1) some [] _ ⟨hlt,by omega⟩ (by omega) ?_
          simp only [go_sem,TmOK,DM,DMs,CM,CMs,forall_eq,exists_eq_left,Mq,HpOK,LowOK]
          simp only [List.map_take] at hnx
          simp [hnx]
        · rw [subZ,if_neg hq2] at hcx
          have htot:¬ ((l.length+(l.map (szS)).sum:Nat):Int)≤left:=by omega
          generalize szS x=z at *
          obtain ⟨k0,t0,⟨a1,b1,c1⟩,⟨a2,b2,c2⟩,c0,bd0,el0⟩:=x
          have hxl:(St1.cellsL l)[i]? = some [I64 k0,I64 t0,I64 a1,I64 b1,.isl 3 (Ex.cellsL c1),I64 a2,I64 b2,.isl 3 (Ex.cellsL c2),I64 c0,.isl 11 (St1.cellsL bd0),.isl 11 (St1.cellsL el0)]:=by rw [St1.cellsL_eq,List.getElem?_map,hx];rfl
          simp only [St1.cells,Ex.cells,List.cons_append,List.nil_append,List.append_assoc] at hcx
          generalize hRW:St1.cellsL l=rows at *
          refine drvL Try.func21 ?_
          simp only [go_sem,hrl,hlt,hxl]
          iterate 6 ((try (refine drvZ Try.func21 ?_;simp only [go_sem,hrl,hlt,hxl]));((with_reducible and_intros)<;>try exact sd);(try first | refine XK.p hcx ok47 ?_ | refine XK.gp hcx ok47 ?_))
          exact ret _ _ (by rw [subZ,if_neg htot])
      · obtain rfl:i=l.length:=by omega
        have hn:¬ l.length<l.length:=by omega
        rw [List.take_length] at hI
        generalize hRW:St1.cellsL l=rows at *
        simp only [List.take_length]
        refine drvL Try.func21 ?_
        simp only [go_sem,hrl,hn]
        iterate 3 ((try (refine drvZ Try.func21 ?_;simp only [go_sem,hrl,hn]));((with_reducible and_intros)<;>try exact sd))
        exact ret _ _ (by rw [subZ,if_pos (by omega)];omega)
    · simp only [go_sem,TmOK,DM,DMs,CM,CMs,forall_eq,exists_eq_left,Mq,HpOK,LowOK]
      try simp
  · have g:(left - (l.length:Int)<0)=True:=eq_true (by omega)
    refine dcZ Try.func21 ?_
    simp only [go_sem,hrl,g]
    iterate 4 ((try (refine drvZ Try.func21 ?_;simp only [go_sem,hrl,g]));((with_reducible and_intros)<;>try exact sd))
    exact ret _ _ (by rw [subZ,if_neg (by omega)])
theorem szExprOf (k v : Int) (ks : List Ex) (hc : ∀ left : Int, 0 ≤ left → left ≤ 1048576 → DC Try.prog 78 [.c (.isl 3 (Ex.cellsL ks)), DI .i64 left] [] (fun r h => r = DI .i64 (subZ left (szEL ks)) ∧ h = [])) (left : Int) (h0 : 0 ≤ left) (h1 : left ≤ 1048576) :
    DC Try.prog 66 [.agg [I64 k,I64 v,.isl 3 (Ex.cellsL ks)],DI .i64 left] [] (fun r h=>r=DI .i64 (subZ left (szEL ks))∧h=[]):=by
  have hmx:=mx_eq
  have ret:∀ (u:Int) (hp:Hp),u=subZ left (szEL ks)→RetOb 0 (fun r h=>r=DI .i64 (subZ left (szEL ks))∧h=[]) (DI .i64 u) hp:=fun u hp h=>RetOb.plain (d:=DI .i64 _) ⟨by rw [h],rfl⟩ rfl
  generalize hR:(fun (r:D) (h:List (Option (List C)))=>r=DI .i64 (subZ left (szEL ks))∧h=[])=R at ret ⊢
  clear hR
  have k0:=hc (left) (by omega) (by omega)
  by_cases q0:((szEL ks:Nat):Int)≤left
  · rw [subZ,if_pos q0] at k0
    have g0:(left - ((szEL ks:Nat):Int)<0)=False:=eq_false (by omega)
    refine dcZ Try.func66 ?_
    simp only [go_sem,g0]
    iterate 7 ((try (refine drvZ Try.func66 ?_;simp only [go_sem,g0]));((with_reducible and_intros)<;>try exact sd);(try first | refine XK.p k0 ok78 ?_ | refine XK.gp k0 ok78 ?_))
    exact ret _ _ (by rw [subZ,if_pos (by omega)]<;>omega)
  · rw [subZ,if_neg q0] at k0
    refine dcZ Try.func66 ?_
    simp only [go_sem]
    iterate 7 ((try (refine drvZ Try.func66 ?_;simp only [go_sem]));((with_reducible and_intros)<;>try exact sd);(try first | refine XK.p k0 ok78 ?_ | refine XK.gp k0 ok78 ?_))
    exact ret _ _ (by rw [subZ,if_neg (by omega)])
theorem szStmtOf (k t : Int) (ix v : Ex) (c : Int) (bd el : List St1) (hi : ∀ left : Int, 0 ≤ left → left ≤ 1048576 → DC Try.prog 66 [.agg ix.cells, DI .i64 left] [] (fun r h => r = DI .i64 (subZ left (szE ix)) ∧ h = [])) (hv : ∀ left : Int, 0 ≤ left → left ≤ 1048576 → DC Try.prog 66 [.agg v.cells, DI .i64 left] [] (fun r h => r = DI .i64 (subZ left (szE v)) ∧ h = [])) (hb : ∀ left : Int, 0 ≤ left → left ≤ 1048576 → DC Try.prog 21 [.c (.isl 11 (St1.cellsL bd)), DI .i64 left] [] (fun r h => r = DI .i64 (subZ left (szSL bd)) ∧ h = [])) (he : ∀ left : Int, 0 ≤ left → left ≤ 1048576 → DC Try.prog 21 [.c (.isl 11 (St1.cellsL el)), DI .i64 left] [] (fun r h => r = DI .i64 (subZ left (szSL el)) ∧ h = [])) (left : Int) (h0 : 0 ≤ left) (h1 : left ≤ 1048576) :
    DC Try.prog 47 [.agg (St1.cells (.mk k t ix v c bd el)),DI .i64 left] [] (fun r h=>r=DI .i64 (subZ left (szE ix+szE v+szSL bd+szSL el))∧h=[]):=by
  have hmx:=mx_eq
  have ret:∀ (u:Int) (hp:Hp),u=subZ left (szE ix+szE v+szSL bd+szSL el)→RetOb 0 (fun r h=>r=DI .i64 (subZ left (szE ix+szE v+szSL bd+szSL el))∧h=[]) (DI .i64 u) hp:=fun u hp h=>RetOb.plain (d:=DI .i64 _) ⟨by rw [h],rfl⟩ rfl
  generalize hR:(fun (r:D) (h:List (Option (List C)))=>r=DI .i64 (subZ left (szE ix+szE v+szSL bd+szSL el))∧h=[])=R at ret ⊢
  clear hR
  generalize szE ix=z1 at *
  generalize szE v=z2 at *
  generalize szSL bd=z3 at *
  generalize szSL el=z4 at *
  obtain ⟨a1,b1,c1⟩:=ix
  obtain ⟨a2,b2,c2⟩:=v
  simp only [St1.cells,Ex.cells,List.cons_append,List.nil_append,List.append_assoc] at *
  have k0:=hi (left) (by omega) (by omega)
  by_cases q0:((z1:Nat):Int)≤left
  · rw [subZ,if_pos q0] at k0
    have g0:(left - ((z1:Nat):Int)<0)=False:=eq_false (by omega)
    have k1:=hv (left - ((z1:Nat):Int)) (by omega) (by omega)
    by_cases q1:((z2:Nat):Int)≤left - ((z1:Nat):Int)
    · rw [subZ,if_pos q1] at k1
      have g1:(left - ((z1:Nat):Int) - ((z2:Nat):Int)<0)=False:=eq_false (by omega)
      have k2:=hb (left - ((z1:Nat):Int) - ((z2:Nat):Int)) (by omega) (by omega)
      by_cases q2:((z3:Nat):Int)≤left - ((z1:Nat):Int) - ((z2:Nat):Int)
      · rw [subZ,if_pos q2] at k2
        have g2:(left - ((z1:Nat):Int) - ((z2:Nat):Int) - ((z3:Nat):Int)<0)=False:=eq_false (by omega)
        have k3:=he (left - ((z1:Nat):Int) - ((z2:Nat):Int) - ((z3:Nat):Int)) (by omega) (by omega)
        by_cases q3:((z4:Nat):Int)≤left - ((z1:Nat):Int) - ((z2:Nat):Int) - ((z3:Nat):Int)
        · rw [subZ,if_pos q3] at k3
          have g3:(left - ((z1:Nat):Int) - ((z2:Nat):Int) - ((z3:Nat):Int) - ((z4:Nat):Int)<0)=False:=eq_false (by omega)
          refine dcZ Try.func47 ?_
          simp only [go_sem,g0,g1,g2,g3]
          iterate 16 ((try (refine drvZ Try.func47 ?_;simp only [go_sem,g0,g1,g2,g3]));((with_reducible and_intros)<;>try exact sd);(try first | refine XK.p k0 ok66 ?_ | refine XK.gp k0 ok66 ?_ | refine XK.p k1 ok66 ?_ | refine XK.gp k1 ok66 ?_ | refine XK.p k2 ok21 ?_ | refine XK.gp k2 ok21 ?_ | refine XK.p k3 ok21 ?_ | refine XK.gp k3 ok21 ?_))
          exact ret _ _ (by rw [subZ,if_pos (by omega)]<;>omega)
        · rw [subZ,if_neg q3] at k3
          refine dcZ Try.func47 ?_
          simp only [go_sem,g0,g1,g2]
          iterate 16 ((try (refine drvZ Try.func47 ?_;simp only [go_sem,g0,g1,g2]));((with_reducible and_intros)<;>try exact sd);(try first | refine XK.p k0 ok66 ?_ | refine XK.gp k0 ok66 ?_ | refine XK.p k1 ok66 ?_ | refine XK.gp k1 ok66 ?_ | refine XK.p k2 ok21 ?_ | refine XK.gp k2 ok21 ?_ | refine XK.p k3 ok21 ?_ | refine XK.gp k3 ok21 ?_))
          exact ret _ _ (by rw [subZ,if_neg (by omega)])
      · rw [subZ,if_neg q2] at k2
        refine dcZ Try.func47 ?_
        simp only [go_sem,g0,g1]
        iterate 16 ((try (refine drvZ Try.func47 ?_;simp only [go_sem,g0,g1]));((with_reducible and_intros)<;>try exact sd);(try first | refine XK.p k0 ok66 ?_ | refine XK.gp k0 ok66 ?_ | refine XK.p k1 ok66 ?_ | refine XK.gp k1 ok66 ?_ | refine XK.p k2 ok21 ?_ | refine XK.gp k2 ok21 ?_))
        exact ret _ _ (by rw [subZ,if_neg (by omega)])
    · rw [subZ,if_neg q1] at k1
      refine dcZ Try.func47 ?_
      simp only [go_sem,g0]
      iterate 16 ((try (refine drvZ Try.func47 ?_;simp only [go_sem,g0]));((with_reducible and_intros)<;>try exact sd);(try first | refine XK.p k0 ok66 ?_ | refine XK.gp k0 ok66 ?_ | refine XK.p k1 ok66 ?_ | refine XK.gp k1 ok66 ?_))
      exact ret _ _ (by rw [subZ,if_neg (by omega)])
  · rw [subZ,if_neg q0] at k0
    refine dcZ Try.func47 ?_
    simp only [go_sem]
    iterate 16 ((try (refine drvZ Try.func47 ?_;simp only [go_sem]));((with_reducible and_intros)<;>try exact sd);(try first | refine XK.p k0 ok66 ?_ | refine XK.gp k0 ok66 ?_))
    exact ret _ _ (by rw [subZ,if_neg (by omega)])
theorem szProgramOf (p : Pg) (hv : ∀ left : Int, 0 ≤ left → left ≤ 1048576 → DC Try.prog 20 [.c (isI p.vars), DI .i64 left] [] (fun r h => r = DI .i64 (subZ left (p.vars.length)) ∧ h = [])) (ha : ∀ left : Int, 0 ≤ left → left ≤ 1048576 → DC Try.prog 20 [.c (isI p.arrays), DI .i64 left] [] (fun r h => r = DI .i64 (subZ left (p.arrays.length)) ∧ h = [])) (hb : ∀ left : Int, 0 ≤ left → left ≤ 1048576 → DC Try.prog 21 [.c (.isl 11 (St1.cellsL p.body)), DI .i64 left] [] (fun r h => r = DI .i64 (subZ left (szSL p.body)) ∧ h = [])) (left : Int) (h0 : 0 ≤ left) (h1 : left ≤ 1048576) :
    DC Try.prog 5 [.agg p.cells,DI .i64 left] [] (fun r h=>r=DI .i64 (subZ left (p.vars.length+p.arrays.length+szSL p.body))∧h=[]):=by
  have hmx:=mx_eq
  have ret:∀ (u:Int) (hp:Hp),u=subZ left (p.vars.length+p.arrays.length+szSL p.body)→RetOb 0 (fun r h=>r=DI .i64 (subZ left (p.vars.length+p.arrays.length+szSL p.body))∧h=[]) (DI .i64 u) hp:=fun u hp h=>RetOb.plain (d:=DI .i64 _) ⟨by rw [h],rfl⟩ rfl
  generalize hR:(fun (r:D) (h:List (Option (List C)))=>r=DI .i64 (subZ left (p.vars.length+p.arrays.length+szSL p.body))∧h=[])=R at ret ⊢
  clear hR
  obtain ⟨vs,ar,bd⟩:=p
  simp only [Pg.cells] at *
  generalize hz1:vs.length=z1 at *
  generalize hz2:ar.length=z2 at *
  generalize szSL bd=z3 at *
  have k0:=hv (left) (by omega) (by omega)
  by_cases q0:((z1:Nat):Int)≤left
  · rw [subZ,if_pos q0] at k0
    have g0:(left - ((z1:Nat):Int)<0)=False:=eq_false (by omega)
    have k1:=ha (left - ((z1:Nat):Int)) (by omega) (by omega)
    by_cases q1:((z2:Nat):Int)≤left - ((z1:Nat):Int)
    · rw [subZ,if_pos q1] at k1
      have g1:(left - ((z1:Nat):Int) - ((z2:Nat):Int)<0)=False:=eq_false (by omega)
      have k2:=hb (left - ((z1:Nat):Int) - ((z2:Nat):Int)) (by omega) (by omega)
      by_cases q2:((z3:Nat):Int)≤left - ((z1:Nat):Int) - ((z2:Nat):Int)
      · rw [subZ,if_pos q2] at k2
        have g2:(left - ((z1:Nat):Int) - ((z2:Nat):Int) - ((z3:Nat):Int)<0)=False:=eq_false (by omega)
        refine dcZ Try.func5 ?_
        simp only [go_sem,g0,g1,g2]
        iterate 13 ((try (refine drvZ Try.func5 ?_;simp only [go_sem,g0,g1,g2]));((with_reducible and_intros)<;>try exact sd);(try first | refine XK.p k0 ok20 ?_ | refine XK.gp k0 ok20 ?_ | refine XK.p k1 ok20 ?_ | refine XK.gp k1 ok20 ?_ | refine XK.p k2 ok21 ?_ | refine XK.gp k2 ok21 ?_))
        exact ret _ _ (by rw [subZ,if_pos (by omega)]<;>omega)
      · rw [subZ,if_neg q2] at k2
        refine dcZ Try.func5 ?_
        simp only [go_sem,g0,g1]
        iterate 13 ((try (refine drvZ Try.func5 ?_;simp only [go_sem,g0,g1]));((with_reducible and_intros)<;>try exact sd);(try first | refine XK.p k0 ok20 ?_ | refine XK.gp k0 ok20 ?_ | refine XK.p k1 ok20 ?_ | refine XK.gp k1 ok20 ?_ | refine XK.p k2 ok21 ?_ | refine XK.gp k2 ok21 ?_))
        exact ret _ _ (by rw [subZ,if_neg (by omega)])
    · rw [subZ,if_neg q1] at k1
      refine dcZ Try.func5 ?_
      simp only [go_sem,g0]
      iterate 13 ((try (refine drvZ Try.func5 ?_;simp only [go_sem,g0]));((with_reducible and_intros)<;>try exact sd);(try first | refine XK.p k0 ok20 ?_ | refine XK.gp k0 ok20 ?_ | refine XK.p k1 ok20 ?_ | refine XK.gp k1 ok20 ?_))
      exact ret _ _ (by rw [subZ,if_neg (by omega)])
  · rw [subZ,if_neg q0] at k0
    refine dcZ Try.func5 ?_
    simp only [go_sem]
    iterate 13 ((try (refine drvZ Try.func5 ?_;simp only [go_sem]));((with_reducible and_intros)<;>try exact sd);(try first | refine XK.p k0 ok20 ?_ | refine XK.gp k0 ok20 ?_))
    exact ret _ _ (by rw [subZ,if_neg (by omega)])
theorem szExpr_c : ∀ (n : Nat) (e : Ex), SizeOf.sizeOf e ≤ n → ExB e → ∀ left : Int, 0 ≤ left → left ≤ 1048576 → DC Try.prog 66 [.agg e.cells, DI .i64 left] [] (fun r h => r = DI .i64 (subZ left (szE e)) ∧ h = [])
  | 0,.mk k v ks,h,_=>by simp at h
  | n+1,.mk k v ks,h,hb=>fun left h0 h1=>by
    cases hb with
    | mk _ _ _ hl hk =>
      rw [show szE (.mk k v ks)=szEL ks by simp only [szE]]
      rw [show Ex.cells (.mk k v ks)=[I64 k,I64 v,.isl 3 (Ex.cellsL ks)] by simp only [Ex.cells]]
      exact szExprOf k v ks (szExprSOf ks hl fun x hx=>szExpr_c n x (by have:=List.sizeOf_lt_of_mem hx;simp only [Ex.mk.sizeOf_spec] at h;omega) (hk x hx)) left h0 h1
theorem szStmt_c : ∀ (n : Nat) (s : St1), SizeOf.sizeOf s ≤ n → StB s → ∀ left : Int, 0 ≤ left → left ≤ 1048576 → DC Try.prog 47 [.agg s.cells, DI .i64 left] [] (fun r h => r = DI .i64 (subZ left (szS s)) ∧ h = [])
  | 0,.mk k t ix v c b e,h,_=>by simp at h
  | n+1,.mk k t ix v c b e,h,hb=>fun left h0 h1=>by
    cases hb with
    | mk _ _ _ _ _ _ _ g1 g2 g3 g4 g5 g6 =>
      simp only [St1.mk.sizeOf_spec] at h
      rw [show szS (.mk k t ix v c b e)=szE ix+szE v+szSL b+szSL e by simp only [szS]]
      exact szStmtOf k t ix v c b e (szExpr_c _ ix (Nat.le_refl _) g1) (szExpr_c _ v (Nat.le_refl _) g2) (szStmtSOf b g3 fun x hx => szStmt_c n x (by have := List.sizeOf_lt_of_mem hx; omega) (g5 x hx))
        (szStmtSOf e g4 fun x hx=>szStmt_c n x (by have:=List.sizeOf_lt_of_mem hx;omega) (g6 x hx)) left h0 h1
theorem szProgram_c (p:Pg) (hb:PgB p) (left:Int) (h0:0≤left) (h1:left≤1048576):DC Try.prog 5 [.agg p.cells,DI .i64 left] [] (fun r h=>r=DI .i64 (subZ left (szP p))∧h=[]) :=
  szProgramOf p (fun l a b=>szIntS p.vars hb.nv l a b) (fun l a b=>szIntS p.arrays hb.na l a b) (szStmtSOf p.body hb.nb fun x hx=>szStmt_c _ x (Nat.le_refl _) (hb.st x hx)) left h0 h1
end Go.Proofs.Ytbknljofedfpjaa.CtD
