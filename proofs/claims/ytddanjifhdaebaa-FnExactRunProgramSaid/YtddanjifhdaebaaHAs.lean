/- Contracts of functions of the program, one behind the other, as plain data: what each call returns and which blocks it leaves. -/
import Derived.Test.YtddanjifhdaebaaHFacts
import Derived.Test.YtddanjifhdaebaaHAj
import Derived.Test.YtddanjifhdaebaaHAr
set_option linter.unusedVariables false
set_option linter.unusedSimpArgs false
set_option linter.unusedSectionVars false
set_option maxHeartbeats 16000000
set_option maxRecDepth 100000
namespace Go.Proofs.Ytddanjifhdaebaa.CtD
open Go Go.CT CtF CtR
variable [Yn]
mutual
def szE : Ex → Nat
 | .mk _ _ ks=>szEL ks
def szEL : List Ex → Nat
 | []=>0
 | e :: r=>(1+szE e)+szEL r
end
mutual
def szS : St1 → Nat
 | .mk _ _ ix v _ b e=>szE ix+szE v+szSL b+szSL e
def szSL : List St1 → Nat
 | []=>0
 | s :: r=>(1+szS s)+szSL r
end
def szIL : List (List Int) → Nat
 | []=>0
 | a :: r=>(1+a.length)+szIL r
theorem szEL_eq : ∀ l : List Ex, szEL l = (l.map fun e => 1 + szE e).sum
 | []=>rfl
 | e :: r=>by simp only [szEL,List.map_cons,List.sum_cons,szEL_eq r]
theorem szSL_eq : ∀ l : List St1, szSL l = (l.map fun e => 1 + szS e).sum
 | []=>rfl
 | e :: r=>by simp only [szSL,List.map_cons,List.sum_cons,szSL_eq r]
theorem szIL_eq : ∀ l : List (List Int), szIL l = (l.map fun e => 1 + e.length).sum
 | []=>rfl
 | e :: r=>by simp only [szIL,List.map_cons,List.sum_cons,szIL_eq r]
def szP (p:Pg):Nat:=p.vars.length+p.arrays.length+szSL p.body
def szM (m:Mm):Nat:=m.vals.length+szIL m.arrays
def subZ (left:Int) (n:Nat):Int:=if (n:Int)≤left then left - n else -1
theorem sum_split {α : Type} (f : α → Nat) : ∀ l : List α, (l.map fun e => 1 + f e).sum = l.length + (l.map f).sum
 | []=>rfl
 | a :: r=>by simp only [List.map_cons,List.sum_cons,List.length_cons,sum_split f r];omega
theorem sum_take {α:Type} (f:α→Nat) {l:List α} {i:Nat} {x:α} (h:l[i]? = some x):((l.take (i+1)).map f).sum=((l.take i).map f).sum+f x∧((l.take i).map f).sum+f x≤(l.map f).sum:=by
 have hi:i<l.length:=(List.getElem?_eq_some_iff.1 h).1
 have hx:l[i]=x:=(List.getElem?_eq_some_iff.1 h).2
 have e:l.take (i+1)=l.take i++[x]:=by rw [List.take_succ_eq_append_getElem hi,hx]
 refine ⟨by rw [e];simp,?_⟩
 have e2:(l.map f).sum=((l.take (i+1)).map f).sum+((l.drop (i+1)).map f).sum:=by
  rw [← List.sum_append,← List.map_append,List.take_append_drop]
 rw [e2,e];simp
inductive ExB : Ex → Prop
 | mk (k v:Int) (ks:List Ex) (h:ks.length≤mx) (hk:∀ e ∈ ks,ExB e):ExB (.mk k v ks)
inductive StB : St1 → Prop
 | mk (k t:Int) (ix v:Ex) (c:Int) (b e:List St1) (h1:ExB ix) (h2:ExB v) (h3:b.length≤mx) (h4:e.length≤mx) (h5:∀ s ∈ b,StB s) (h6:∀ s ∈ e,StB s):StB (.mk k t ix v c b e)
structure PgB (p : Pg) : Prop where
 nv:p.vars.length≤mx
 na:p.arrays.length≤mx
 nb:p.body.length≤mx
 st:∀ s ∈ p.body,StB s
structure MmB (m : Mm) : Prop where
 nv:m.vals.length≤mx
 na:m.arrays.length≤mx
 ar:∀ a ∈ m.arrays,a.length≤mx
inductive ExN : Ex → Prop
 | mk (k v:Int) (ks:List Ex) (h:ks.length≤1048576) (hk:∀ e ∈ ks,ExN e):ExN (.mk k v ks)
inductive StN : St1 → Prop
 | mk (k t:Int) (ix v:Ex) (c:Int) (b e:List St1) (h1:ExN ix) (h2:ExN v) (h3:b.length≤1048576) (h4:e.length≤1048576) (h5:∀ s ∈ b,StN s) (h6:∀ s ∈ e,StN s):StN (.mk k t ix v c b e)
theorem mem_sum {α : Type} (f : α → Nat) : ∀ {l : List α} {x : α}, x ∈ l → f x + 1 ≤ (l.map fun e => 1 + f e).sum
 | a :: r,x,h=>by
  simp only [List.map_cons,List.sum_cons]
  rcases List.mem_cons.1 h with rfl | h
  ·omega
  ·have:=mem_sum f h;omega
theorem exN_of : ∀ (n : Nat) (e : Ex), SizeOf.sizeOf e ≤ n → szE e ≤ 1048576 → ExN e
 | 0,.mk k v ks,h,_=>by simp at h
 | n+1,.mk k v ks,h,hz=>by
  simp only [szE,szEL_eq] at hz
  have h1:=sum_split szE ks
  refine .mk k v ks (by omega) fun e he=>exN_of n e ?_ ?_
  ·have:=List.sizeOf_lt_of_mem he
   simp only [Ex.mk.sizeOf_spec] at h;omega
  ·have:=mem_sum szE he;omega
theorem stN_of : ∀ (n : Nat) (s : St1), SizeOf.sizeOf s ≤ n → szS s ≤ 1048576 → StN s
 | 0,.mk k t ix v c b e,h,_=>by simp at h
 | n+1,.mk k t ix v c b e,h,hz=>by
  simp only [szS,szSL_eq] at hz
  have h1:=sum_split szS b
  have h2:=sum_split szS e
  simp only [St1.mk.sizeOf_spec] at h
  refine .mk k t ix v c b e (exN_of _ ix (Nat.le_refl _) (by omega)) (exN_of _ v (Nat.le_refl _) (by omega)) (by omega) (by omega) (fun s hs=>stN_of n s ?_ ?_) (fun s hs=>stN_of n s ?_ ?_)
  ·have:=List.sizeOf_lt_of_mem hs;omega
  ·have:=mem_sum szS hs;omega
  ·have:=List.sizeOf_lt_of_mem hs;omega
  ·have:=mem_sum szS hs;omega
theorem put_at : ∀ (ds A B : List C), ds.length ≤ B.length → putCells (A ++ B) A.length ds = A ++ ds ++ B.drop ds.length
 | [],A,B,_=>by simp [putCells]
 | d :: r,A,[],h=>by simp at h
 | d :: r,A,b :: B,h=>by
  have e:(A++b :: B).set A.length d=(A++[d])++B:=by
   rw [List.set_append_right _ _ (Nat.le_refl _)];simp
  have ih:=put_at r (A++[d]) B (by simpa using h)
  simp only [putCells,e]
  rw [show A.length+1=(A++[d]).length by simp,ih]
  simp
theorem put_row {rows : List (List C)} {zs ds : List C} {m k i : Nat} (hz : zs.length = k) (hd : ds.length = k) (hr : (rows.flatten).length = i * k) :
 putCells (rows.flatten++(List.replicate (m+1) zs).flatten) (i * k) ds=(rows++[ds]).flatten++(List.replicate m zs).flatten:=by
 rw [← hr,put_at _ _ _ (by simp [List.replicate_succ,hz,hd])]
 simp [List.replicate_succ,hz,hd]
theorem szIntS (xs:List Int) (hl:xs.length≤mx) (left:Int) (h0:0≤left) (h1:left≤1048576):DC Try.prog 66 [.c (isI xs),DI .i64 left] [] (fun r h=>r=DI .i64 (subZ left xs.length)∧h=[]):=by
 have hmx:=mx_eq
 have ret:∀ (v:Int) (hp:Hp),v=subZ left xs.length→RetOb 0 (fun r h=>r=DI .i64 (subZ left xs.length)∧h=[]) (DI .i64 v) hp:=fun v hp h=>RetOb.plain (d:=DI .i64 _) ⟨by rw [h],rfl⟩ rfl
 generalize hR:(fun (r:D) (h:List (Option (List C)))=>r=DI .i64 (subZ left xs.length)∧h=[])=R at ret ⊢
 clear hR
 by_cases hq:(xs.length:Int)≤left
 ·have g:(left - (xs.length:Int)<0)=False:=eq_false (by omega)
  refine dcZ Try.func66 ?_
  simp only [go_sem,List.length_map,g]
  iterate 4 ((try (refine drvZ Try.func66 ?_;simp only [go_sem,List.length_map,g]));((with_reducible and_intros)<;>try exact sd))
  exact ret _ _ (by rw [subZ,if_pos hq])
 ·have g:(left - (xs.length:Int)<0)=True:=eq_true (by omega)
  refine dcZ Try.func66 ?_
  simp only [go_sem,List.length_map,g]
  iterate 4 ((try (refine drvZ Try.func66 ?_;simp only [go_sem,List.length_map,g]));((with_reducible and_intros)<;>try exact sd))
  exact ret _ _ (by rw [subZ,if_neg hq])
theorem szIntSSOf (l : List (List Int)) (hl : l.length ≤ mx) (hc : ∀ x ∈ l, ∀ left : Int, 0 ≤ left → left ≤ 1048576 → DC Try.prog 66 [.c (isI x), DI .i64 left] [] (fun r h => r = DI .i64 (subZ left (List.length x)) ∧ h = [])) (left : Int) (h0 : 0 ≤ left) (h1 : left ≤ 1048576) :
 DC Try.prog 103 [.c (.isl 1 ((l.map fun a=>[isI a]))),DI .i64 left] [] (fun r h=>r=DI .i64 (subZ left (szIL l))∧h=[]):=by
 have hmx:=mx_eq
 have ret:∀ (v:Int) (hp:Hp),v=subZ left (szIL l)→RetOb 0 (fun r h=>r=DI .i64 (subZ left (szIL l))∧h=[]) (DI .i64 v) hp:=fun v hp h=>RetOb.plain (d:=DI .i64 _) ⟨by rw [h],rfl⟩ rfl
 generalize hR:(fun (r:D) (h:List (Option (List C)))=>r=DI .i64 (subZ left (szIL l))∧h=[])=R at ret ⊢
 clear hR
 rw [szIL_eq,sum_split] at ret
 have hrl:((l.map fun a=>[isI a])).length=l.length:=by simp [List.length_map]
 by_cases hq:(l.length:Int)≤left
 ·have g:(left - (l.length:Int)<0)=False:=eq_false (by omega)
  refine dcZ Try.func103 ?_
  simp only [go_sem,hrl,g]
  iterate 4 ((try (refine drvZ Try.func103 ?_;simp only [go_sem,hrl,g]));((with_reducible and_intros)<;>try exact sd))
  refine Go.loopQ (fun i:Nat=>[(0,.c (.isl 1 ((l.map fun a=>[isI a])))),(1,DI .i64 (left - l.length - ((l.take i).map (List.length)).sum)),(5,DI .i64 i)]) (fun _=>[]) 1024 (fun i=>i≤l.length∧(l.length+((l.take i).map (List.length)).sum:Int)≤left) (fun i=>l.length - i) ?_ 0 some [] _ ⟨by omega,by simpa using hq⟩ ?_
  ·rintro i ⟨hi,hI⟩ again
   rcases Nat.lt_or_ge i l.length with hlt | hge
   ·obtain ⟨x,hx⟩:∃ x,l[i]? = some x:=⟨l[i],by simp [hlt]⟩
    have hxl:((l.map fun a=>[isI a]))[i]? = some [isI x]:=by rw [List.getElem?_map,hx];rfl
    have hst:=sum_take (List.length) hx
    have hcx:=hc x (List.mem_of_getElem? hx) (left - l.length - ((l.take i).map (List.length)).sum) (by omega) (by omega)
    generalize hB:((l.take i).map (List.length)).sum=B at *
    have hB2:=hst.1
    have hB3:=hst.2
    by_cases hq2:(List.length x:Int)≤left - l.length - B
    ·rw [subZ,if_pos hq2] at hcx
     have g2:(left - (l.length:Int) - (B:Int) - (List.length x:Int)<0)=False:=eq_false (by omega)
     have hnx:left - (l.length:Int) - (((l.take (i+1)).map (List.length)).sum:Int)=left - l.length - B - List.length x:=by rw [hB2];omega
     generalize List.length x=z at *
     generalize hRW:(l.map fun a=>[isI a])=rows at *
     refine drvL Try.func103 ?_
     simp only [go_sem,hrl,hlt,hxl]
     iterate 6 ((try (refine drvZ Try.func103 ?_;simp only [go_sem,hrl,hlt,hxl,g2]));((with_reducible and_intros)<;>try exact sd);(try first | refine XK.p hcx ok66 ?_ | refine XK.gp hcx ok66 ?_))
     refine again (i+1) some [] _ ⟨hlt,by omega⟩ (by omega) ?_
     simp only [go_sem,TmOK,DM,DMs,CM,CMs,forall_eq,exists_eq_left,Mq,HpOK,LowOK]
     simp only [List.map_take] at hnx
     simp [hnx]
    ·rw [subZ,if_neg hq2] at hcx
     have htot:¬ ((l.length+(l.map (List.length)).sum:Nat):Int)≤left:=by omega
     generalize List.length x=z at *
     generalize hRW:(l.map fun a=>[isI a])=rows at *
     refine drvL Try.func103 ?_
     simp only [go_sem,hrl,hlt,hxl]
     iterate 6 ((try (refine drvZ Try.func103 ?_;simp only [go_sem,hrl,hlt,hxl]));((with_reducible and_intros)<;>try exact sd);(try first | refine XK.p hcx ok66 ?_ | refine XK.gp hcx ok66 ?_))
     exact ret _ _ (by rw [subZ,if_neg htot])
   ·obtain rfl:i=l.length:=by omega
    have hn:¬ l.length<l.length:=by omega
    rw [List.take_length] at hI
    generalize hRW:(l.map fun a=>[isI a])=rows at *
    simp only [List.take_length]
    refine drvL Try.func103 ?_
    simp only [go_sem,hrl,hn]
    iterate 3 ((try (refine drvZ Try.func103 ?_;simp only [go_sem,hrl,hn]));((with_reducible and_intros)<;>try exact sd))
    exact ret _ _ (by rw [subZ,if_pos (by omega)];omega)
  ·simp only [go_sem,TmOK,DM,DMs,CM,CMs,forall_eq,exists_eq_left,Mq,HpOK,LowOK]
   try simp
 ·have g:(left - (l.length:Int)<0)=True:=eq_true (by omega)
  refine dcZ Try.func103 ?_
  simp only [go_sem,hrl,g]
  iterate 4 ((try (refine drvZ Try.func103 ?_;simp only [go_sem,hrl,g]));((with_reducible and_intros)<;>try exact sd))
  exact ret _ _ (by rw [subZ,if_neg (by omega)])
theorem szExprSOf (l : List (Ex)) (hl : l.length ≤ mx) (hc : ∀ x ∈ l, ∀ left : Int, 0 ≤ left → left ≤ 1048576 → DC Try.prog 177 [.agg x.cells, DI .i64 left] [] (fun r h => r = DI .i64 (subZ left (szE x)) ∧ h = [])) (left : Int) (h0 : 0 ≤ left) (h1 : left ≤ 1048576) :
 DC Try.prog 201 [.c (.isl 3 (Ex.cellsL l)),DI .i64 left] [] (fun r h=>r=DI .i64 (subZ left (szEL l))∧h=[]):=by
 have hmx:=mx_eq
 have ret:∀ (v:Int) (hp:Hp),v=subZ left (szEL l)→RetOb 0 (fun r h=>r=DI .i64 (subZ left (szEL l))∧h=[]) (DI .i64 v) hp:=fun v hp h=>RetOb.plain (d:=DI .i64 _) ⟨by rw [h],rfl⟩ rfl
 generalize hR:(fun (r:D) (h:List (Option (List C)))=>r=DI .i64 (subZ left (szEL l))∧h=[])=R at ret ⊢
 clear hR
 rw [szEL_eq,sum_split] at ret
 have hrl:(Ex.cellsL l).length=l.length:=by simp [Ex.cellsL_length]
 by_cases hq:(l.length:Int)≤left
 ·have g:(left - (l.length:Int)<0)=False:=eq_false (by omega)
  refine dcZ Try.func201 ?_
  simp only [go_sem,hrl,g]
  iterate 4 ((try (refine drvZ Try.func201 ?_;simp only [go_sem,hrl,g]));((with_reducible and_intros)<;>try exact sd))
  refine Go.loopQ (fun i:Nat=>[(0,.c (.isl 3 (Ex.cellsL l))),(1,DI .i64 (left - l.length - ((l.take i).map (szE)).sum)),(5,DI .i64 i)]) (fun _=>[]) 1024 (fun i=>i≤l.length∧(l.length+((l.take i).map (szE)).sum:Int)≤left) (fun i=>l.length - i) ?_ 0 some [] _ ⟨by omega,by simpa using hq⟩ ?_
  ·rintro i ⟨hi,hI⟩ again
   rcases Nat.lt_or_ge i l.length with hlt | hge
   ·obtain ⟨x,hx⟩:∃ x,l[i]? = some x:=⟨l[i],by simp [hlt]⟩
    have hst:=sum_take (szE) hx
    have hcx:=hc x (List.mem_of_getElem? hx) (left - l.length - ((l.take i).map (szE)).sum) (by omega) (by omega)
    generalize hB:((l.take i).map (szE)).sum=B at *
    have hB2:=hst.1
    have hB3:=hst.2
    by_cases hq2:(szE x:Int)≤left - l.length - B
    ·rw [subZ,if_pos hq2] at hcx
     have g2:(left - (l.length:Int) - (B:Int) - (szE x:Int)<0)=False:=eq_false (by omega)
     have hnx:left - (l.length:Int) - (((l.take (i+1)).map (szE)).sum:Int)=left - l.length - B - szE x:=by rw [hB2];omega
     generalize szE x=z at *
     obtain ⟨k0,v0,ks0⟩:=x
     have hxl:(Ex.cellsL l)[i]? = some [I64 k0,I64 v0,.isl 3 (Ex.cellsL ks0)]:=by rw [Ex.cellsL_eq,List.getElem?_map,hx];rfl
     simp only [Ex.cells,Ex.cells,List.cons_append,List.nil_append,List.append_assoc] at hcx
     generalize hRW:Ex.cellsL l=rows at *
     refine drvL Try.func201 ?_
     simp only [go_sem,hrl,hlt,hxl]
     iterate 6 ((try (refine drvZ Try.func201 ?_;simp only [go_sem,hrl,hlt,hxl,g2]));((with_reducible and_intros)<;>try exact sd);(try first | refine XK.p hcx ok177 ?_ | refine XK.gp hcx ok177 ?_))
     refine again (i+1) some [] _ ⟨hlt,by omega⟩ (by omega) ?_
     simp only [go_sem,TmOK,DM,DMs,CM,CMs,forall_eq,exists_eq_left,Mq,HpOK,LowOK]
     simp only [List.map_take] at hnx
     simp [hnx]
    ·rw [subZ,if_neg hq2] at hcx
     have htot:¬ ((l.length+(l.map (szE)).sum:Nat):Int)≤left:=by omega
     generalize szE x=z at *
     obtain ⟨k0,v0,ks0⟩:=x
     have hxl:(Ex.cellsL l)[i]? = some [I64 k0,I64 v0,.isl 3 (Ex.cellsL ks0)]:=by rw [Ex.cellsL_eq,List.getElem?_map,hx];rfl
     simp only [Ex.cells,Ex.cells,List.cons_append,List.nil_append,List.append_assoc] at hcx
     generalize hRW:Ex.cellsL l=rows at *
     refine drvL Try.func201 ?_
     simp only [go_sem,hrl,hlt,hxl]
     iterate 6 ((try (refine drvZ Try.func201 ?_;simp only [go_sem,hrl,hlt,hxl]));((with_reducible and_intros)<;>try exact sd);(try first | refine XK.p hcx ok177 ?_ | refine XK.gp hcx ok177 ?_))
     exact ret _ _ (by rw [subZ,if_neg htot])
   ·obtain rfl:i=l.length:=by omega
    have hn:¬ l.length<l.length:=by omega
    rw [List.take_length] at hI
    generalize hRW:Ex.cellsL l=rows at *
    simp only [List.take_length]
    refine drvL Try.func201 ?_
    simp only [go_sem,hrl,hn]
    iterate 3 ((try (refine drvZ Try.func201 ?_;simp only [go_sem,hrl,hn]));((with_reducible and_intros)<;>try exact sd))
    exact ret _ _ (by rw [subZ,if_pos (by omega)];omega)
  ·simp only [go_sem,TmOK,DM,DMs,CM,CMs,forall_eq,exists_eq_left,Mq,HpOK,LowOK]
   try simp
 ·have g:(left - (l.length:Int)<0)=True:=eq_true (by omega)
  refine dcZ Try.func201 ?_
  simp only [go_sem,hrl,g]
  iterate 4 ((try (refine drvZ Try.func201 ?_;simp only [go_sem,hrl,g]));((with_reducible and_intros)<;>try exact sd))
  exact ret _ _ (by rw [subZ,if_neg (by omega)])
theorem szStmtSOf (l : List (St1)) (hl : l.length ≤ mx) (hc : ∀ x ∈ l, ∀ left : Int, 0 ≤ left → left ≤ 1048576 → DC Try.prog 137 [.agg x.cells, DI .i64 left] [] (fun r h => r = DI .i64 (subZ left (szS x)) ∧ h = [])) (left : Int) (h0 : 0 ≤ left) (h1 : left ≤ 1048576) :
 DC Try.prog 80 [.c (.isl 11 (St1.cellsL l)),DI .i64 left] [] (fun r h=>r=DI .i64 (subZ left (szSL l))∧h=[]):=by
 have hmx:=mx_eq
 have ret:∀ (v:Int) (hp:Hp),v=subZ left (szSL l)→RetOb 0 (fun r h=>r=DI .i64 (subZ left (szSL l))∧h=[]) (DI .i64 v) hp:=fun v hp h=>RetOb.plain (d:=DI .i64 _) ⟨by rw [h],rfl⟩ rfl
 generalize hR:(fun (r:D) (h:List (Option (List C)))=>r=DI .i64 (subZ left (szSL l))∧h=[])=R at ret ⊢
 clear hR
 rw [szSL_eq,sum_split] at ret
 have hrl:(St1.cellsL l).length=l.length:=by simp [St1.cellsL_length]
 by_cases hq:(l.length:Int)≤left
 ·have g:(left - (l.length:Int)<0)=False:=eq_false (by omega)
  refine dcZ Try.func80 ?_
  simp only [go_sem,hrl,g]
  iterate 4 ((try (refine drvZ Try.func80 ?_;simp only [go_sem,hrl,g]));((with_reducible and_intros)<;>try exact sd))
  refine Go.loopQ (fun i:Nat=>[(0,.c (.isl 11 (St1.cellsL l))),(1,DI .i64 (left - l.length - ((l.take i).map (szS)).sum)),(5,DI .i64 i)]) (fun _=>[]) 1024 (fun i=>i≤l.length∧(l.length+((l.take i).map (szS)).sum:Int)≤left) (fun i=>l.length - i) ?_ 0 some [] _ ⟨by omega,by simpa using hq⟩ ?_
  ·rintro i ⟨hi,hI⟩ again
   rcases Nat.lt_or_ge i l.length with hlt | hge
   ·obtain ⟨x,hx⟩:∃ x,l[i]? = some x:=⟨l[i],by simp [hlt]⟩
    have hst:=sum_take (szS) hx
    have hcx:=hc x (List.mem_of_getElem? hx) (left - l.length - ((l.take i).map (szS)).sum) (by omega) (by omega)
    generalize hB:((l.take i).map (szS)).sum=B at *
    have hB2:=hst.1
    have hB3:=hst.2
    by_cases hq2:(szS x:Int)≤left - l.length - B
    ·rw [subZ,if_pos hq2] at hcx
     have g2:(left - (l.length:Int) - (B:Int) - (szS x:Int)<0)=False:=eq_false (by omega)
     have hnx:left - (l.length:Int) - (((l.take (i+1)).map (szS)).sum:Int)=left - l.length - B - szS x:=by rw [hB2];omega
     generalize szS x=z at *
     obtain ⟨k0,t0,⟨a1,b1,c1⟩,⟨a2,b2,c2⟩,c0,bd0,el0⟩:=x
     have hxl:(St1.cellsL l)[i]? = some [I64 k0,I64 t0,I64 a1,I64 b1,.isl 3 (Ex.cellsL c1),I64 a2,I64 b2,.isl 3 (Ex.cellsL c2),I64 c0,.isl 11 (St1.cellsL bd0),.isl 11 (St1.cellsL el0)]:=by rw [St1.cellsL_eq,List.getElem?_map,hx];rfl
     simp only [St1.cells,Ex.cells,List.cons_append,List.nil_append,List.append_assoc] at hcx
     generalize hRW:St1.cellsL l=rows at *
     refine drvL Try.func80 ?_
     simp only [go_sem,hrl,hlt,hxl]
     iterate 6 ((try (refine drvZ Try.func80 ?_;simp only [go_sem,hrl,hlt,hxl,g2]));((with_reducible and_intros)<;>try exact sd);(try first | refine XK.p hcx ok137 ?_ | refine XK.gp hcx ok137 ?_))
     refine again (i+1) some [] _ ⟨hlt,by omega⟩ (by omega) ?_
     simp only [go_sem,TmOK,DM,DMs,CM,CMs,forall_eq,exists_eq_left,Mq,HpOK,LowOK]
     simp only [List.map_take] at hnx
     simp [hnx]
    ·rw [subZ,if_neg hq2] at hcx
     have htot:¬ ((l.length+(l.map (szS)).sum:Nat):Int)≤left:=by omega
     generalize szS x=z at *
     obtain ⟨k0,t0,⟨a1,b1,c1⟩,⟨a2,b2,c2⟩,c0,bd0,el0⟩:=x
     have hxl:(St1.cellsL l)[i]? = some [I64 k0,I64 t0,I64 a1,I64 b1,.isl 3 (Ex.cellsL c1),I64 a2,I64 b2,.isl 3 (Ex.cellsL c2),I64 c0,.isl 11 (St1.cellsL bd0),.isl 11 (St1.cellsL el0)]:=by rw [St1.cellsL_eq,List.getElem?_map,hx];rfl
     simp only [St1.cells,Ex.cells,List.cons_append,List.nil_append,List.append_assoc] at hcx
     generalize hRW:St1.cellsL l=rows at *
     refine drvL Try.func80 ?_
     simp only [go_sem,hrl,hlt,hxl]
     iterate 6 ((try (refine drvZ Try.func80 ?_;simp only [go_sem,hrl,hlt,hxl]));((with_reducible and_intros)<;>try exact sd);(try first | refine XK.p hcx ok137 ?_ | refine XK.gp hcx ok137 ?_))
     exact ret _ _ (by rw [subZ,if_neg htot])
   ·obtain rfl:i=l.length:=by omega
    have hn:¬ l.length<l.length:=by omega
    rw [List.take_length] at hI
    generalize hRW:St1.cellsL l=rows at *
    simp only [List.take_length]
    refine drvL Try.func80 ?_
    simp only [go_sem,hrl,hn]
    iterate 3 ((try (refine drvZ Try.func80 ?_;simp only [go_sem,hrl,hn]));((with_reducible and_intros)<;>try exact sd))
    exact ret _ _ (by rw [subZ,if_pos (by omega)];omega)
  ·simp only [go_sem,TmOK,DM,DMs,CM,CMs,forall_eq,exists_eq_left,Mq,HpOK,LowOK]
   try simp
 ·have g:(left - (l.length:Int)<0)=True:=eq_true (by omega)
  refine dcZ Try.func80 ?_
  simp only [go_sem,hrl,g]
  iterate 4 ((try (refine drvZ Try.func80 ?_;simp only [go_sem,hrl,g]));((with_reducible and_intros)<;>try exact sd))
  exact ret _ _ (by rw [subZ,if_neg (by omega)])
theorem szExprOf (k v : Int) (ks : List Ex) (hc : ∀ left : Int, 0 ≤ left → left ≤ 1048576 → DC Try.prog 201 [.c (.isl 3 (Ex.cellsL ks)), DI .i64 left] [] (fun r h => r = DI .i64 (subZ left (szEL ks)) ∧ h = [])) (left : Int) (h0 : 0 ≤ left) (h1 : left ≤ 1048576) :
 DC Try.prog 177 [.agg [I64 k,I64 v,.isl 3 (Ex.cellsL ks)],DI .i64 left] [] (fun r h=>r=DI .i64 (subZ left (szEL ks))∧h=[]):=by
 have hmx:=mx_eq
 have ret:∀ (u:Int) (hp:Hp),u=subZ left (szEL ks)→RetOb 0 (fun r h=>r=DI .i64 (subZ left (szEL ks))∧h=[]) (DI .i64 u) hp:=fun u hp h=>RetOb.plain (d:=DI .i64 _) ⟨by rw [h],rfl⟩ rfl
 generalize hR:(fun (r:D) (h:List (Option (List C)))=>r=DI .i64 (subZ left (szEL ks))∧h=[])=R at ret ⊢
 clear hR
 have k0:=hc (left) (by omega) (by omega)
 by_cases q0:((szEL ks:Nat):Int)≤left
 ·rw [subZ,if_pos q0] at k0
  have g0:(left - ((szEL ks:Nat):Int)<0)=False:=eq_false (by omega)
  refine dcZ Try.func177 ?_
  simp only [go_sem,g0]
  iterate 7 ((try (refine drvZ Try.func177 ?_;simp only [go_sem,g0]));((with_reducible and_intros)<;>try exact sd);(try first | refine XK.p k0 ok201 ?_ | refine XK.gp k0 ok201 ?_))
  exact ret _ _ (by rw [subZ,if_pos (by omega)]<;>omega)
 ·rw [subZ,if_neg q0] at k0
  refine dcZ Try.func177 ?_
  simp only [go_sem]
  iterate 7 ((try (refine drvZ Try.func177 ?_;simp only [go_sem]));((with_reducible and_intros)<;>try exact sd);(try first | refine XK.p k0 ok201 ?_ | refine XK.gp k0 ok201 ?_))
  exact ret _ _ (by rw [subZ,if_neg (by omega)])
theorem szStmtOf (k t : Int) (ix v : Ex) (c : Int) (bd el : List St1) (hi : ∀ left : Int, 0 ≤ left → left ≤ 1048576 → DC Try.prog 177 [.agg ix.cells, DI .i64 left] [] (fun r h => r = DI .i64 (subZ left (szE ix)) ∧ h = [])) (hv : ∀ left : Int, 0 ≤ left → left ≤ 1048576 → DC Try.prog 177 [.agg v.cells, DI .i64 left] [] (fun r h => r = DI .i64 (subZ left (szE v)) ∧ h = [])) (hb : ∀ left : Int, 0 ≤ left → left ≤ 1048576 → DC Try.prog 80 [.c (.isl 11 (St1.cellsL bd)), DI .i64 left] [] (fun r h => r = DI .i64 (subZ left (szSL bd)) ∧ h = [])) (he : ∀ left : Int, 0 ≤ left → left ≤ 1048576 → DC Try.prog 80 [.c (.isl 11 (St1.cellsL el)), DI .i64 left] [] (fun r h => r = DI .i64 (subZ left (szSL el)) ∧ h = [])) (left : Int) (h0 : 0 ≤ left) (h1 : left ≤ 1048576) :
 DC Try.prog 137 [.agg (St1.cells (.mk k t ix v c bd el)),DI .i64 left] [] (fun r h=>r=DI .i64 (subZ left (szE ix+szE v+szSL bd+szSL el))∧h=[]):=by
 have hmx:=mx_eq
 have ret:∀ (u:Int) (hp:Hp),u=subZ left (szE ix+szE v+szSL bd+szSL el)→RetOb 0 (fun r h=>r=DI .i64 (subZ left (szE ix+szE v+szSL bd+szSL el))∧h=[]) (DI .i64 u) hp:=fun u hp h=>RetOb.plain (d:=DI .i64 _) ⟨by rw [h],rfl⟩ rfl
 generalize hR:(fun (r:D) (h:List (Option (List C)))=>r=DI .i64 (subZ left (szE ix+szE v+szSL bd+szSL el))∧h=[])=R at ret ⊢
 clear hR
 generalize szE ix=z1 at *
 generalize szE v=z2 at *
 generalize szSL bd=z3 at *
 generalize szSL el=z4 at *
 obtain ⟨a1,b1,c1⟩:=ix
 obtain ⟨a2,b2,c2⟩:=v
 simp only [St1.cells,Ex.cells,List.cons_append,List.nil_append,List.append_assoc] at *
 have k0:=hi (left) (by omega) (by omega)
 by_cases q0:((z1:Nat):Int)≤left
 ·rw [subZ,if_pos q0] at k0
  have g0:(left - ((z1:Nat):Int)<0)=False:=eq_false (by omega)
  have k1:=hv (left - ((z1:Nat):Int)) (by omega) (by omega)
  by_cases q1:((z2:Nat):Int)≤left - ((z1:Nat):Int)
  ·rw [subZ,if_pos q1] at k1
   have g1:(left - ((z1:Nat):Int) - ((z2:Nat):Int)<0)=False:=eq_false (by omega)
   have k2:=hb (left - ((z1:Nat):Int) - ((z2:Nat):Int)) (by omega) (by omega)
   by_cases q2:((z3:Nat):Int)≤left - ((z1:Nat):Int) - ((z2:Nat):Int)
   ·rw [subZ,if_pos q2] at k2
    have g2:(left - ((z1:Nat):Int) - ((z2:Nat):Int) - ((z3:Nat):Int)<0)=False:=eq_false (by omega)
    have k3:=he (left - ((z1:Nat):Int) - ((z2:Nat):Int) - ((z3:Nat):Int)) (by omega) (by omega)
    by_cases q3:((z4:Nat):Int)≤left - ((z1:Nat):Int) - ((z2:Nat):Int) - ((z3:Nat):Int)
    ·rw [subZ,if_pos q3] at k3
     have g3:(left - ((z1:Nat):Int) - ((z2:Nat):Int) - ((z3:Nat):Int) - ((z4:Nat):Int)<0)=False:=eq_false (by omega)
     refine dcZ Try.func137 ?_
     simp only [go_sem,g0,g1,g2,g3]
     iterate 16 ((try (refine drvZ Try.func137 ?_;simp only [go_sem,g0,g1,g2,g3]));((with_reducible and_intros)<;>try exact sd);(try first | refine XK.p k0 ok177 ?_ | refine XK.gp k0 ok177 ?_ | refine XK.p k1 ok177 ?_ | refine XK.gp k1 ok177 ?_ | refine XK.p k2 ok80 ?_ | refine XK.gp k2 ok80 ?_ | refine XK.p k3 ok80 ?_ | refine XK.gp k3 ok80 ?_))
     exact ret _ _ (by rw [subZ,if_pos (by omega)]<;>omega)
    ·rw [subZ,if_neg q3] at k3
     refine dcZ Try.func137 ?_
     simp only [go_sem,g0,g1,g2]
     iterate 16 ((try (refine drvZ Try.func137 ?_;simp only [go_sem,g0,g1,g2]));((with_reducible and_intros)<;>try exact sd);(try first | refine XK.p k0 ok177 ?_ | refine XK.gp k0 ok177 ?_ | refine XK.p k1 ok177 ?_ | refine XK.gp k1 ok177 ?_ | refine XK.p k2 ok80 ?_ | refine XK.gp k2 ok80 ?_ | refine XK.p k3 ok80 ?_ | refine XK.gp k3 ok80 ?_))
     exact ret _ _ (by rw [subZ,if_neg (by omega)])
   ·rw [subZ,if_neg q2] at k2
    refine dcZ Try.func137 ?_
    simp only [go_sem,g0,g1]
    iterate 16 ((try (refine drvZ Try.func137 ?_;simp only [go_sem,g0,g1]));((with_reducible and_intros)<;>try exact sd);(try first | refine XK.p k0 ok177 ?_ | refine XK.gp k0 ok177 ?_ | refine XK.p k1 ok177 ?_ | refine XK.gp k1 ok177 ?_ | refine XK.p k2 ok80 ?_ | refine XK.gp k2 ok80 ?_))
    exact ret _ _ (by rw [subZ,if_neg (by omega)])
  ·rw [subZ,if_neg q1] at k1
   refine dcZ Try.func137 ?_
   simp only [go_sem,g0]
   iterate 16 ((try (refine drvZ Try.func137 ?_;simp only [go_sem,g0]));((with_reducible and_intros)<;>try exact sd);(try first | refine XK.p k0 ok177 ?_ | refine XK.gp k0 ok177 ?_ | refine XK.p k1 ok177 ?_ | refine XK.gp k1 ok177 ?_))
   exact ret _ _ (by rw [subZ,if_neg (by omega)])
 ·rw [subZ,if_neg q0] at k0
  refine dcZ Try.func137 ?_
  simp only [go_sem]
  iterate 16 ((try (refine drvZ Try.func137 ?_;simp only [go_sem]));((with_reducible and_intros)<;>try exact sd);(try first | refine XK.p k0 ok177 ?_ | refine XK.gp k0 ok177 ?_))
  exact ret _ _ (by rw [subZ,if_neg (by omega)])
theorem szProgramOf (p : Pg) (hv : ∀ left : Int, 0 ≤ left → left ≤ 1048576 → DC Try.prog 66 [.c (isI p.vars), DI .i64 left] [] (fun r h => r = DI .i64 (subZ left (p.vars.length)) ∧ h = [])) (ha : ∀ left : Int, 0 ≤ left → left ≤ 1048576 → DC Try.prog 66 [.c (isI p.arrays), DI .i64 left] [] (fun r h => r = DI .i64 (subZ left (p.arrays.length)) ∧ h = [])) (hb : ∀ left : Int, 0 ≤ left → left ≤ 1048576 → DC Try.prog 80 [.c (.isl 11 (St1.cellsL p.body)), DI .i64 left] [] (fun r h => r = DI .i64 (subZ left (szSL p.body)) ∧ h = [])) (left : Int) (h0 : 0 ≤ left) (h1 : left ≤ 1048576) :
 DC Try.prog 22 [.agg p.cells,DI .i64 left] [] (fun r h=>r=DI .i64 (subZ left (p.vars.length+p.arrays.length+szSL p.body))∧h=[]):=by
 have hmx:=mx_eq
 have ret:∀ (u:Int) (hp:Hp),u=subZ left (p.vars.length+p.arrays.length+szSL p.body)→RetOb 0 (fun r h=>r=DI .i64 (subZ left (p.vars.length+p.arrays.length+szSL p.body))∧h=[]) (DI .i64 u) hp:=fun u hp h=>RetOb.plain (d:=DI .i64 _) ⟨by rw [h],rfl⟩ rfl
 generalize hR:(fun (r:D) (h:List (Option (List C)))=>r=DI .i64 (subZ left (p.vars.length+p.arrays.length+szSL p.body))∧h=[])=R at ret ⊢
 clear hR
 obtain ⟨vs,ar,bd⟩:=p
 simp only [Pg.cells] at *
 generalize hz1:vs.length=z1 at *
 generalize hz2:ar.length=z2 at *
 generalize szSL bd=z3 at *
 have k0:=hv (left) (by omega) (by omega)
 by_cases q0:((z1:Nat):Int)≤left
 ·rw [subZ,if_pos q0] at k0
  have g0:(left - ((z1:Nat):Int)<0)=False:=eq_false (by omega)
  have k1:=ha (left - ((z1:Nat):Int)) (by omega) (by omega)
  by_cases q1:((z2:Nat):Int)≤left - ((z1:Nat):Int)
  ·rw [subZ,if_pos q1] at k1
   have g1:(left - ((z1:Nat):Int) - ((z2:Nat):Int)<0)=False:=eq_false (by omega)
   have k2:=hb (left - ((z1:Nat):Int) - ((z2:Nat):Int)) (by omega) (by omega)
   by_cases q2:((z3:Nat):Int)≤left - ((z1:Nat):Int) - ((z2:Nat):Int)
   ·rw [subZ,if_pos q2] at k2
    have g2:(left - ((z1:Nat):Int) - ((z2:Nat):Int) - ((z3:Nat):Int)<0)=False:=eq_false (by omega)
    refine dcZ Try.func22 ?_
    simp only [go_sem,g0,g1,g2]
    iterate 13 ((try (refine drvZ Try.func22 ?_;simp only [go_sem,g0,g1,g2]));((with_reducible and_intros)<;>try exact sd);(try first | refine XK.p k0 ok66 ?_ | refine XK.gp k0 ok66 ?_ | refine XK.p k1 ok66 ?_ | refine XK.gp k1 ok66 ?_ | refine XK.p k2 ok80 ?_ | refine XK.gp k2 ok80 ?_))
    exact ret _ _ (by rw [subZ,if_pos (by omega)]<;>omega)
   ·rw [subZ,if_neg q2] at k2
    refine dcZ Try.func22 ?_
    simp only [go_sem,g0,g1]
    iterate 13 ((try (refine drvZ Try.func22 ?_;simp only [go_sem,g0,g1]));((with_reducible and_intros)<;>try exact sd);(try first | refine XK.p k0 ok66 ?_ | refine XK.gp k0 ok66 ?_ | refine XK.p k1 ok66 ?_ | refine XK.gp k1 ok66 ?_ | refine XK.p k2 ok80 ?_ | refine XK.gp k2 ok80 ?_))
    exact ret _ _ (by rw [subZ,if_neg (by omega)])
  ·rw [subZ,if_neg q1] at k1
   refine dcZ Try.func22 ?_
   simp only [go_sem,g0]
   iterate 13 ((try (refine drvZ Try.func22 ?_;simp only [go_sem,g0]));((with_reducible and_intros)<;>try exact sd);(try first | refine XK.p k0 ok66 ?_ | refine XK.gp k0 ok66 ?_ | refine XK.p k1 ok66 ?_ | refine XK.gp k1 ok66 ?_))
   exact ret _ _ (by rw [subZ,if_neg (by omega)])
 ·rw [subZ,if_neg q0] at k0
  refine dcZ Try.func22 ?_
  simp only [go_sem]
  iterate 13 ((try (refine drvZ Try.func22 ?_;simp only [go_sem]));((with_reducible and_intros)<;>try exact sd);(try first | refine XK.p k0 ok66 ?_ | refine XK.gp k0 ok66 ?_))
  exact ret _ _ (by rw [subZ,if_neg (by omega)])
theorem szMemoryOf (m : Mm) (hv : ∀ left : Int, 0 ≤ left → left ≤ 1048576 → DC Try.prog 66 [.c (isI m.vals), DI .i64 left] [] (fun r h => r = DI .i64 (subZ left (m.vals.length)) ∧ h = [])) (ha : ∀ left : Int, 0 ≤ left → left ≤ 1048576 → DC Try.prog 103 [.c (.isl 1 (m.arrays.map fun a => [isI a])), DI .i64 left] [] (fun r h => r = DI .i64 (subZ left (szIL m.arrays)) ∧ h = [])) (left : Int) (h0 : 0 ≤ left) (h1 : left ≤ 1048576) :
 DC Try.prog 44 [.agg m.cells,DI .i64 left] [] (fun r h=>r=DI .i64 (subZ left (m.vals.length+szIL m.arrays))∧h=[]):=by
 have hmx:=mx_eq
 have ret:∀ (u:Int) (hp:Hp),u=subZ left (m.vals.length+szIL m.arrays)→RetOb 0 (fun r h=>r=DI .i64 (subZ left (m.vals.length+szIL m.arrays))∧h=[]) (DI .i64 u) hp:=fun u hp h=>RetOb.plain (d:=DI .i64 _) ⟨by rw [h],rfl⟩ rfl
 generalize hR:(fun (r:D) (h:List (Option (List C)))=>r=DI .i64 (subZ left (m.vals.length+szIL m.arrays))∧h=[])=R at ret ⊢
 clear hR
 obtain ⟨va,arr⟩:=m
 simp only [Mm.cells] at *
 generalize hz1:va.length=z1 at *
 generalize szIL arr=z2 at *
 have k0:=hv (left) (by omega) (by omega)
 by_cases q0:((z1:Nat):Int)≤left
 ·rw [subZ,if_pos q0] at k0
  have g0:(left - ((z1:Nat):Int)<0)=False:=eq_false (by omega)
  have k1:=ha (left - ((z1:Nat):Int)) (by omega) (by omega)
  by_cases q1:((z2:Nat):Int)≤left - ((z1:Nat):Int)
  ·rw [subZ,if_pos q1] at k1
   have g1:(left - ((z1:Nat):Int) - ((z2:Nat):Int)<0)=False:=eq_false (by omega)
   refine dcZ Try.func44 ?_
   simp only [go_sem,g0,g1]
   iterate 10 ((try (refine drvZ Try.func44 ?_;simp only [go_sem,g0,g1]));((with_reducible and_intros)<;>try exact sd);(try first | refine XK.p k0 ok66 ?_ | refine XK.gp k0 ok66 ?_ | refine XK.p k1 ok103 ?_ | refine XK.gp k1 ok103 ?_))
   exact ret _ _ (by rw [subZ,if_pos (by omega)]<;>omega)
  ·rw [subZ,if_neg q1] at k1
   refine dcZ Try.func44 ?_
   simp only [go_sem,g0]
   iterate 10 ((try (refine drvZ Try.func44 ?_;simp only [go_sem,g0]));((with_reducible and_intros)<;>try exact sd);(try first | refine XK.p k0 ok66 ?_ | refine XK.gp k0 ok66 ?_ | refine XK.p k1 ok103 ?_ | refine XK.gp k1 ok103 ?_))
   exact ret _ _ (by rw [subZ,if_neg (by omega)])
 ·rw [subZ,if_neg q0] at k0
  refine dcZ Try.func44 ?_
  simp only [go_sem]
  iterate 10 ((try (refine drvZ Try.func44 ?_;simp only [go_sem]));((with_reducible and_intros)<;>try exact sd);(try first | refine XK.p k0 ok66 ?_ | refine XK.gp k0 ok66 ?_))
  exact ret _ _ (by rw [subZ,if_neg (by omega)])
theorem szExpr_c : ∀ (n : Nat) (e : Ex), SizeOf.sizeOf e ≤ n → ExB e → ∀ left : Int, 0 ≤ left → left ≤ 1048576 → DC Try.prog 177 [.agg e.cells, DI .i64 left] [] (fun r h => r = DI .i64 (subZ left (szE e)) ∧ h = [])
 | 0,.mk k v ks,h,_=>by simp at h
 | n+1,.mk k v ks,h,hb=>fun left h0 h1=>by
  cases hb with
  | mk _ _ _ hl hk =>
   rw [show szE (.mk k v ks)=szEL ks by simp only [szE]]
   rw [show Ex.cells (.mk k v ks)=[I64 k,I64 v,.isl 3 (Ex.cellsL ks)] by simp only [Ex.cells]]
   exact szExprOf k v ks (szExprSOf ks hl fun x hx=>szExpr_c n x (by have:=List.sizeOf_lt_of_mem hx;simp only [Ex.mk.sizeOf_spec] at h;omega) (hk x hx)) left h0 h1
theorem szStmt_c : ∀ (n : Nat) (s : St1), SizeOf.sizeOf s ≤ n → StB s → ∀ left : Int, 0 ≤ left → left ≤ 1048576 → DC Try.prog 137 [.agg s.cells, DI .i64 left] [] (fun r h => r = DI .i64 (subZ left (szS s)) ∧ h = [])
 | 0,.mk k t ix v c b e,h,_=>by simp at h
 | n+1,.mk k t ix v c b e,h,hb=>fun left h0 h1=>by
  cases hb with
  | mk _ _ _ _ _ _ _ g1 g2 g3 g4 g5 g6 =>
   simp only [St1.mk.sizeOf_spec] at h
   rw [show szS (.mk k t ix v c b e)=szE ix+szE v+szSL b+szSL e by simp only [szS]]
   exact szStmtOf k t ix v c b e (szExpr_c _ ix (Nat.le_refl _) g1) (szExpr_c _ v (Nat.le_refl _) g2) (szStmtSOf b g3 fun x hx => szStmt_c n x (by have := List.sizeOf_lt_of_mem hx; omega) (g5 x hx))
    (szStmtSOf e g4 fun x hx=>szStmt_c n x (by have:=List.sizeOf_lt_of_mem hx;omega) (g6 x hx)) left h0 h1
theorem szProgram_c (p:Pg) (hb:PgB p) (left:Int) (h0:0≤left) (h1:left≤1048576):DC Try.prog 22 [.agg p.cells,DI .i64 left] [] (fun r h=>r=DI .i64 (subZ left (szP p))∧h=[]) :=
 szProgramOf p (fun l a b=>szIntS p.vars hb.nv l a b) (fun l a b=>szIntS p.arrays hb.na l a b) (szStmtSOf p.body hb.nb fun x hx=>szStmt_c _ x (Nat.le_refl _) (hb.st x hx)) left h0 h1
theorem szMemory_c (m:Mm) (hb:MmB m) (left:Int) (h0:0≤left) (h1:left≤1048576):DC Try.prog 44 [.agg m.cells,DI .i64 left] [] (fun r h=>r=DI .i64 (subZ left (szM m))∧h=[]) :=
 szMemoryOf m (fun l a b=>szIntS m.vals hb.nv l a b) (szIntSSOf m.arrays hb.na fun x hx l a b=>szIntS x (hb.ar x hx) l a b) left h0 h1
end Go.Proofs.Ytddanjifhdaebaa.CtD
