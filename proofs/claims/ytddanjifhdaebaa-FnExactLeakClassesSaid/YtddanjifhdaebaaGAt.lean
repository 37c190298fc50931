/- Contracts of functions of the program, one behind the other, as plain data: what each call returns and which blocks it leaves. -/
import Derived.Test.YtddanjifhdaebaaGFacts
import Derived.Test.YtddanjifhdaebaaGAj
import Derived.Test.YtddanjifhdaebaaGAr
import Derived.Test.YtddanjifhdaebaaGAs
import Derived.Test.YtddanjifhdaebaaGAm
set_option linter.unusedVariables false
set_option linter.unusedSimpArgs false
set_option linter.unusedSectionVars false
set_option maxHeartbeats 16000000
set_option maxRecDepth 100000
namespace Go.Proofs.Ytddanjifhdaebaa.CtD
open Go Go.CT CtF CtR
variable [Yn]
theorem szIntS (xs:List Int) (hl:xs.length≤mx) (left:Int) (h0:0≤left) (h1:left≤1048576):DC Try.prog 66 [.c (isI xs),DI .i64 left] [] (fun r h=>r=DI .i64 (subZ left xs.length)∧h=[]):=by
 have hmx:=mx_eq
 have ret:∀ (v:Int) (hp:Hp),v=subZ left xs.length→RetOb 0 (fun r h=>r=DI .i64 (subZ left xs.length)∧h=[]) (DI .i64 v) hp:=fun v hp h=>RetOb.plain (d:=DI .i64 _) ⟨by rw [h],rfl⟩ rfl
 generalize hR:(fun (r:D) (h:List (Option (List C)))=>r=DI .i64 (subZ left xs.length)∧h=[])=R at ret ⊢
 clear hR
 by_cases hq:(xs.length:Int)≤left
 ·have g:(left - (xs.length:Int)<0)=False:=eq_false (by omega)
  refine dcZ Try.func66 ?_
  simp only [go_sem,List.length_map,g]
  iterate 4 ((try (refine drvZ Try.func66 ?_;simp only [go_sem,List.length_map,g]));((with_reducible and_intros)<;>try exact sd))
  exact ret _ _ (by rw [subZ,if_pos hq])
 ·have g:(left - (xs.length:Int)<0)=True:=eq_true (by omega)
  refine dcZ Try.func66 ?_
  simp only [go_sem,List.length_map,g]
  iterate 4 ((try (refine drvZ Try.func66 ?_;simp only [go_sem,List.length_map,g]));((with_reducible and_intros)<;>try exact sd))
  exact ret _ _ (by rw [subZ,if_neg hq])
theorem szIntSSOf (l : List (List Int)) (hl : l.length ≤ mx) (hc : ∀ x ∈ l, ∀ left : Int, 0 ≤ left → left ≤ 1048576 → DC Try.prog 66 [.c (isI x), DI .i64 left] [] (fun r h => r = DI .i64 (subZ left (List.length x)) ∧ h = [])) (left : Int) (h0 : 0 ≤ left) (h1 : left ≤ 1048576) :
 DC Try.prog 103 [.c (.isl 1 ((l.map fun a=>[isI a]))),DI .i64 left] [] (fun r h=>r=DI .i64 (subZ left (szIL l))∧h=[]):=by
 have hmx:=mx_eq
 have ret:∀ (v:Int) (hp:Hp),v=subZ left (szIL l)→RetOb 0 (fun r h=>r=DI .i64 (subZ left (szIL l))∧h=[]) (DI .i64 v) hp:=fun v hp h=>RetOb.plain (d:=DI .i64 _) ⟨by rw [h],rfl⟩ rfl
 generalize hR:(fun (r:D) (h:List (Option (List C)))=>r=DI .i64 (subZ left (szIL l))∧h=[])=R at ret ⊢
 clear hR
 rw [szIL_eq,sum_split] at ret
 have hrl:((l.map fun a=>[isI a])).length=l.length:=by simp [List.length_map]
 by_cases hq:(l.length:Int)≤left
 ·have g:(left - (l.length:Int)<0)=False:=eq_false (by omega)
  refine dcZ Try.func103 ?_
  simp only [go_sem,hrl,g]
  iterate 4 ((try (refine drvZ Try.func103 ?_;simp only [go_sem,hrl,g]));((with_reducible and_intros)<;>try exact sd))
  refine Go.loopQ (fun i:Nat=>[(0,.c (.isl 1 ((l.map fun a=>[isI a])))),(1,DI .i64 (left - l.length - ((l.take i).map (List.length)).sum)),(5,DI .i64 i)]) (fun _=>[]) 1024 (fun i=>i≤l.length∧(l.length+((l.take i).map (List.length)).sum:Int)≤left) (fun i=>l.length - i) ?_ 0 some [] _ ⟨by omega,by simpa using hq⟩ ?_
  ·rintro i ⟨hi,hI⟩ again
   rcases Nat.lt_or_ge i l.length with hlt | hge
   ·obtain ⟨x,hx⟩:∃ x,l[i]? = some x:=⟨l[i],by simp [hlt]⟩
    have hxl:((l.map fun a=>[isI a]))[i]? = some [isI x]:=by rw [List.getElem?_map,hx];rfl
    have hst:=sum_take (List.length) hx
    have hcx:=hc x (List.mem_of_getElem? hx) (left - l.length - ((l.take i).map (List.length)).sum) (by omega) (by omega)
    generalize hB:((l.take i).map (List.length)).sum=B at *
    have hB2:=hst.1
    have hB3:=hst.2
    by_cases hq2:(List.length x:Int)≤left - l.length - B
    ·rw [subZ,if_pos hq2] at hcx
     have g2:(left - (l.length:Int) - (B:Int) - (List.length x:Int)<0)=False:=eq_false (by omega)
     have hnx:left - (l.length:Int) - (((l.take (i+1)).map (List.length)).sum:Int)=left - l.length - B - List.length x:=by rw [hB2];omega
     generalize List.length x=z at *
     generalize hRW:(l.map fun a=>[isI a])=rows at *
     refine drvL Try.func103 ?_
     simp only [go_sem,hrl,hlt,hxl]
     iterate 6 ((try (refine drvZ Try.func103 ?_;simp only [go_sem,hrl,hlt,hxl,g2]));((with_reducible and_intros)<;>try exact sd);(try first | refine XK.p hcx ok66 ?_ | refine XK.gp hcx ok66 ?_))
     refine again (i+1) some [] _ ⟨hlt,by omega⟩ (by omega) ?_
     simp only [go_sem,TmOK,DM,DMs,CM,CMs,forall_eq,exists_eq_left,Mq,HpOK,LowOK]
     simp only [List.map_take] at hnx
     simp [hnx]
    ·rw [subZ,if_neg hq2] at hcx
     have htot:¬ ((l.length+(l.map (List.length)).sum:Nat):Int)≤left:=by omega
     generalize List.length x=z at *
     generalize hRW:(l.map fun a=>[isI a])=rows at *
     refine drvL Try.func103 ?_
     simp only [go_sem,hrl,hlt,hxl]
     iterate 6 ((try (refine drvZ Try.func103 ?_;simp only [go_sem,hrl,hlt,hxl]));((with_reducible and_intros)<;>try exact sd);(try first | refine XK.p hcx ok66 ?_ | refine XK.gp hcx ok66 ?_))
     exact ret _ _ (by rw [subZ,if_neg htot])
   ·obtain rfl:i=l.length:=by omega
    have hn:¬ l.length<l.length:=by omega
    rw [List.take_length] at hI
    generalize hRW:(l.map fun a=>[isI a])=rows at *
    simp only [List.take_length]
    refine drvL Try.func103 ?_
    simp only [go_sem,hrl,hn]
    iterate 3 ((try (refine drvZ Try.func103 ?_;simp only [go_sem,hrl,hn]));((with_reducible and_intros)<;>try exact sd))
    exact ret _ _ (by rw [subZ,if_pos (by omega)];omega)
  ·simp only [go_sem,TmOK,DM,DMs,CM,CMs,forall_eq,exists_eq_left,Mq,HpOK,LowOK]
   try simp
 ·have g:(left - (l.length:Int)<0)=True:=eq_true (by omega)
  refine dcZ Try.func103 ?_
  simp only [go_sem,hrl,g]
  iterate 4 ((try (refine drvZ Try.func103 ?_;simp only [go_sem,hrl,g]));((with_reducible and_intros)<;>try exact sd))
  exact ret _ _ (by rw [subZ,if_neg (by omega)])
theorem szExprSOf (l : List (Ex)) (hl : l.length ≤ mx) (hc : ∀ x ∈ l, ∀ left : Int, 0 ≤ left → left ≤ 1048576 → DC Try.prog 177 [.agg x.cells, DI .i64 left] [] (fun r h => r = DI .i64 (subZ left (szE x)) ∧ h = [])) (left : Int) (h0 : 0 ≤ left) (h1 : left ≤ 1048576) :
 DC Try.prog 201 [.c (.isl 3 (Ex.cellsL l)),DI .i64 left] [] (fun r h=>r=DI .i64 (subZ left (szEL l))∧h=[]):=by
 have hmx:=mx_eq
 have ret:∀ (v:Int) (hp:Hp),v=subZ left (szEL l)→RetOb 0 (fun r h=>r=DI .i64 (subZ left (szEL l))∧h=[]) (DI .i64 v) hp:=fun v hp h=>RetOb.plain (d:=DI .i64 _) ⟨by rw [h],rfl⟩ rfl
 generalize hR:(fun (r:D) (h:List (Option (List C)))=>r=DI .i64 (subZ left (szEL l))∧h=[])=R at ret ⊢
 clear hR
 rw [szEL_eq,sum_split] at ret
 have hrl:(Ex.cellsL l).length=l.length:=by simp [Ex.cellsL_length]
 by_cases hq:(l.length:Int)≤left
 ·have g:(left - (l.length:Int)<0)=False:=eq_false (by omega)
  refine dcZ Try.func201 ?_
  simp only [go_sem,hrl,g]
  iterate 4 ((try (refine drvZ Try.func201 ?_;simp only [go_sem,hrl,g]));((with_reducible and_intros)<;>try exact sd))
  refine Go.loopQ (fun i:Nat=>[(0,.c (.isl 3 (Ex.cellsL l))),(1,DI .i64 (left - l.length - ((l.take i).map (szE)).sum)),(5,DI .i64 i)]) (fun _=>[]) 1024 (fun i=>i≤l.length∧(l.length+((l.take i).map (szE)).sum:Int)≤left) (fun i=>l.length - i) ?_ 0 some [] _ ⟨by omega,by simpa using hq⟩ ?_
  ·rintro i ⟨hi,hI⟩ again
   rcases Nat.lt_or_ge i l.length with hlt | hge
   ·obtain ⟨x,hx⟩:∃ x,l[i]? = some x:=⟨l[i],by simp [hlt]⟩
    have hst:=sum_take (szE) hx
    have hcx:=hc x (List.mem_of_getElem? hx) (left - l.length - ((l.take i).map (szE)).sum) (by omega) (by omega)
    generalize hB:((l.take i).map (szE)).sum=B at *
    have hB2:=hst.1
    have hB3:=hst.2
    by_cases hq2:(szE x:Int)≤left - l.length - B
    ·rw [subZ,if_pos hq2] at hcx
     have g2:(left - (l.length:Int) - (B:Int) - (szE x:Int)<0)=False:=eq_false (by omega)
     have hnx:left - (l.length:Int) - (((l.take (i+1)).map (szE)).sum:Int)=left - l.length - B - szE x:=by rw [hB2];omega
     generalize szE x=z at *
     obtain ⟨k0,v0,ks0⟩:=x
     have hxl:(Ex.cellsL l)[i]? = some [I64 k0,I64 v0,.isl 3 (Ex.cellsL ks0)]:=by rw [Ex.cellsL_eq,List.getElem?_map,hx];rfl
     simp only [Ex.cells,Ex.cells,List.cons_append,List.nil_append,List.append_assoc] at hcx
     generalize hRW:Ex.cellsL l=rows at *
     refine drvL Try.func201 ?_
     simp only [go_sem,hrl,hlt,hxl]
     iterate 6 ((try (refine drvZ Try.func201 ?_;simp only [go_sem,hrl,hlt,hxl,g2]));((with_reducible and_intros)<;>try exact sd);(try first | refine XK.p hcx ok177 ?_ | refine XK.gp hcx ok177 ?_))
     refine again (i+1) some [] _ ⟨hlt,by omega⟩ (by omega) ?_
     simp only [go_sem,TmOK,DM,DMs,CM,CMs,forall_eq,exists_eq_left,Mq,HpOK,LowOK]
     simp only [List.map_take] at hnx
     simp [hnx]
    ·rw [subZ,if_neg hq2] at hcx
     have htot:¬ ((l.length+(l.map (szE)).sum:Nat):Int)≤left:=by omega
     generalize szE x=z at *
     obtain ⟨k0,v0,ks0⟩:=x
     have hxl:(Ex.cellsL l)[i]? = some [I64 k0,I64 v0,.isl 3 (Ex.cellsL ks0)]:=by rw [Ex.cellsL_eq,List.getElem?_map,hx];rfl
     simp only [Ex.cells,Ex.cells,List.cons_append,List.nil_append,List.append_assoc] at hcx
     generalize hRW:Ex.cellsL l=rows at *
     refine drvL Try.func201 ?_
     simp only [go_sem,hrl,hlt,hxl]
     iterate 6 ((try (refine drvZ Try.func201 ?_;simp only [go_sem,hrl,hlt,hxl]));((with_reducible and_intros)<;>try exact sd);(try first | refine XK.p hcx ok177 ?_ | refine XK.gp hcx ok177 ?_))
     exact ret _ _ (by rw [subZ,if_neg htot])
   ·obtain rfl:i=l.length:=by omega
    have hn:¬ l.length<l.length:=by omega
    rw [List.take_length] at hI
    generalize hRW:Ex.cellsL l=rows at *
    simp only [List.take_length]
    refine drvL Try.func201 ?_
    simp only [go_sem,hrl,hn]
    iterate 3 ((try (refine drvZ Try.func201 ?_;simp only [go_sem,hrl,hn]));((with_reducible and_intros)<;>try exact sd))
    exact ret _ _ (by rw [subZ,if_pos (by omega)];omega)
  ·simp only [go_sem,TmOK,DM,DMs,CM,CMs,forall_eq,exists_eq_left,Mq,HpOK,LowOK]
   try simp
 ·have g:(left - (l.length:Int)<0)=True:=eq_true (by omega)
  refine dcZ Try.func201 ?_
  simp only [go_sem,hrl,g]
  iterate 4 ((try (refine drvZ Try.func201 ?_;simp only [go_sem,hrl,g]));((with_reducible and_intros)<;>try exact sd))
  exact ret _ _ (by rw [subZ,if_neg (by omega)])
theorem szStmtSOf (l : List (St1)) (hl : l.length ≤ mx) (hc : ∀ x ∈ l, ∀ left : Int, 0 ≤ left → left ≤ 1048576 → DC Try.prog 137 [.agg x.cells, DI .i64 left] [] (fun r h => r = DI .i64 (subZ left (szS x)) ∧ h = [])) (left : Int) (h0 : 0 ≤ left) (h1 : left ≤ 1048576) :
 DC Try.prog 80 [.c (.isl 11 (St1.cellsL l)),DI .i64 left] [] (fun r h=>r=DI .i64 (subZ left (szSL l))∧h=[]):=by
 have hmx:=mx_eq
 have ret:∀ (v:Int) (hp:Hp),v=subZ left (szSL l)→RetOb 0 (fun r h=>r=DI .i64 (subZ left (szSL l))∧h=[]) (DI .i64 v) hp:=fun v hp h=>RetOb.plain (d:=DI .i64 _) ⟨by rw [h],rfl⟩ rfl
 generalize hR:(fun (r:D) (h:List (Option (List C)))=>r=DI .i64 (subZ left (szSL l))∧h=[])=R at ret ⊢
 clear hR
 rw [szSL_eq,sum_split] at ret
 have hrl:(St1.cellsL l).length=l.length:=by simp [St1.cellsL_length]
 by_cases hq:(l.length:Int)≤left
 ·have g:(left - (l.length:Int)<0)=False:=eq_false (by omega)
  refine dcZ Try.func80 ?_
  simp only [go_sem,hrl,g]
  iterate 4 ((try (refine drvZ Try.func80 ?_;simp only [go_sem,hrl,g]));((with_reducible and_intros)<;>try exact sd))
  refine Go.loopQ (fun i:Nat=>[(0,.c (.isl 11 (St1.cellsL l))),(1,DI .i64 (left - l.length - ((l.take i).map (szS)).sum)),(5,DI .i64 i)]) (fun _=>[]) 1024 (fun i=>i≤l.length∧(l.length+((l.take i).map (szS)).sum:Int)≤left) (fun i=>l.length - i) ?_ 0 some [] _ ⟨by omega,by simpa using hq⟩ ?_
  ·rintro i ⟨hi,hI⟩ again
   rcases Nat.lt_or_ge i l.length with hlt | hge
   ·obtain ⟨x,hx⟩:∃ x,l[i]? = some x:=⟨l[i],by simp [hlt]⟩
    have hst:=sum_take (szS) hx
    have hcx:=hc x (List.mem_of_getElem? hx) (left - l.length - ((l.take i).map (szS)).sum) (by omega) (by omega)
    generalize hB:((l.take i).map (szS)).sum=B at *
    have hB2:=hst.1
    have hB3:=hst.2
    by_cases hq2:(szS x:Int)≤left - l.length - B
    ·rw [subZ,if_pos hq2] at hcx
     have g2:(left - (l.length:Int) - (B:Int) - (szS x:Int)<0)=False:=eq_false (by omega)
     have hnx:left - (l.length:Int) - (((l.take (i+1)).map (szS)).sum:Int)=left - l.length - B - szS x:=by rw [hB2];omega
     generalize szS x=z at *
     obtain ⟨k0,t0,⟨a1,b1,c1⟩,⟨a2,b2,c2⟩,c0,bd0,el0⟩:=x
     have hxl:(St1.cellsL l)[i]? = some [I64 k0,I64 t0,I64 a1,I64 b1,.isl 3 (Ex.cellsL c1),I64 a2,I64 b2,.isl 3 (Ex.cellsL c2),I64 c0,.isl 11 (St1.cellsL bd0),.isl 11 (St1.cellsL el0)]:=by rw [St1.cellsL_eq,List.getElem?_map,hx];rfl
     simp only [St1.cells,Ex.cells,List.cons_append,List.nil_append,List.append_assoc] at hcx
     generalize hRW:St1.cellsL l=rows at *
     refine drvL Try.func80 ?_
     simp only [go_sem,hrl,hlt,hxl]
     iterate 6 ((try (refine drvZ Try.func80 ?_;simp only [go_sem,hrl,hlt,hxl,g2]));((with_reducible and_intros)<;>try exact sd);(try first | refine XK.p hcx ok137 ?_ | refine XK.gp hcx ok137 ?_))
     refine again (i+1) some [] _ ⟨hlt,by omega⟩ (by omega) ?_
     simp only [go_sem,TmOK,DM,DMs,CM,CMs,forall_eq,exists_eq_left,Mq,HpOK,LowOK]
     simp only [List.map_take] at hnx
     simp [hnx]
    ·rw [subZ,if_neg hq2] at hcx
     have htot:¬ ((l.length+(l.map (szS)).sum:Nat):Int)≤left:=by omega
     generalize szS x=z at *
     obtain ⟨k0,t0,⟨a1,b1,c1⟩,⟨a2,b2,c2⟩,c0,bd0,el0⟩:=x
     have hxl:(St1.cellsL l)[i]? = some [I64 k0,I64 t0,I64 a1,I64 b1,.isl 3 (Ex.cellsL c1),I64 a2,I64 b2,.isl 3 (Ex.cellsL c2),I64 c0,.isl 11 (St1.cellsL bd0),.isl 11 (St1.cellsL el0)]:=by rw [St1.cellsL_eq,List.getElem?_map,hx];rfl
     simp only [St1.cells,Ex.cells,List.cons_append,List.nil_append,List.append_assoc] at hcx
     generalize hRW:St1.cellsL l=rows at *
     refine drvL Try.func80 ?_
     simp only [go_sem,hrl,hlt,hxl]
     iterate 6 ((try (refine drvZ Try.func80 ?_;simp only [go_sem,hrl,hlt,hxl]));((with_reducible and_intros)<;>try exact sd);(try first | refine XK.p hcx ok137 ?_ | refine XK.gp hcx ok137 ?_))
     exact ret _ _ (by rw [subZ,if_neg htot])
   ·obtain rfl:i=l.length:=by omega
    have hn:¬ l.length<l.length:=by omega
    rw [List.take_length] at hI
    generalize hRW:St1.cellsL l=rows at *
    simp only [List.take_length]
    refine drvL Try.func80 ?_
    simp only [go_sem,hrl,hn]
    iterate 3 ((try (refine drvZ Try.func80 ?_;simp only [go_sem,hrl,hn]));((with_reducible and_intros)<;>try exact sd))
    exact ret _ _ (by rw [subZ,if_pos (by omega)];omega)
  ·simp only [go_sem,TmOK,DM,DMs,CM,CMs,forall_eq,exists_eq_left,Mq,HpOK,LowOK]
   try simp
 ·have g:(left - (l.length:Int)<0)=True:=eq_true (by omega)
  refine dcZ Try.func80 ?_
  simp only [go_sem,hrl,g]
  iterate 4 ((try (refine drvZ Try.func80 ?_;simp only [go_sem,hrl,g]));((with_reducible and_intros)<;>try exact sd))
  exact ret _ _ (by rw [subZ,if_neg (by omega)])
theorem szExprOf (k v : Int) (ks : List Ex) (hc : ∀ left : Int, 0 ≤ left → left ≤ 1048576 → DC Try.prog 201 [.c (.isl 3 (Ex.cellsL ks)), DI .i64 left] [] (fun r h => r = DI .i64 (subZ left (szEL ks)) ∧ h = [])) (left : Int) (h0 : 0 ≤ left) (h1 : left ≤ 1048576) :
 DC Try.prog 177 [.agg [I64 k,I64 v,.isl 3 (Ex.cellsL ks)],DI .i64 left] [] (fun r h=>r=DI .i64 (subZ left (szEL ks))∧h=[]):=by
 have hmx:=mx_eq
 have ret:∀ (u:Int) (hp:Hp),u=subZ left (szEL ks)→RetOb 0 (fun r h=>r=DI .i64 (subZ left (szEL ks))∧h=[]) (DI .i64 u) hp:=fun u hp h=>RetOb.plain (d:=DI .i64 _) ⟨by rw [h],rfl⟩ rfl
 generalize hR:(fun (r:D) (h:List (Option (List C)))=>r=DI .i64 (subZ left (szEL ks))∧h=[])=R at ret ⊢
 clear hR
 have k0:=hc (left) (by omega) (by omega)
 by_cases q0:((szEL ks:Nat):Int)≤left
 ·rw [subZ,if_pos q0] at k0
  have g0:(left - ((szEL ks:Nat):Int)<0)=False:=eq_false (by omega)
  refine dcZ Try.func177 ?_
  simp only [go_sem,g0]
  iterate 7 ((try (refine drvZ Try.func177 ?_;simp only [go_sem,g0]));((with_reducible and_intros)<;>try exact sd);(try first | refine XK.p k0 ok201 ?_ | refine XK.gp k0 ok201 ?_))
  exact ret _ _ (by rw [subZ,if_pos (by omega)]<;>omega)
 ·rw [subZ,if_neg q0] at k0
  refine dcZ Try.func177 ?_
  simp only [go_sem]
  iterate 7 ((try (refine drvZ Try.func177 ?_;simp only [go_sem]));((with_reducible and_intros)<;>try exact sd);(try first | refine XK.p k0 ok201 ?_ | refine XK.gp k0 ok201 ?_))
  exact ret _ _ (by rw [subZ,if_neg (by omega)])
theorem szStmtOf (k t : Int) (ix v : Ex) (c : Int) (bd el : List St1) (hi : ∀ left : Int, 0 ≤ left → left ≤ 1048576 → DC Try.prog 177 [.agg ix.cells, DI .i64 left] [] (fun r h => r = DI .i64 (subZ left (szE ix)) ∧ h = [])) (hv : ∀ left : Int, 0 ≤ left → left ≤ 1048576 → DC Try.prog 177 [.agg v.cells, DI .i64 left] [] (fun r h => r = DI .i64 (subZ left (szE v)) ∧ h = [])) (hb : ∀ left : Int, 0 ≤ left → left ≤ 1048576 → DC Try.prog 80 [.c (.isl 11 (St1.cellsL bd)), DI .i64 left] [] (fun r h => r = DI .i64 (subZ left (szSL bd)) ∧ h = [])) (he : ∀ left : Int, 0 ≤ left → left ≤ 1048576 → DC Try.prog 80 [.c (.isl 11 (St1.cellsL el)), DI .i64 left] [] (fun r h => r = DI .i64 (subZ left (szSL el)) ∧ h = [])) (left : Int) (h0 : 0 ≤ left) (h1 : left ≤ 1048576) :
 DC Try.prog 137 [.agg (St1.cells (.mk k t ix v c bd el)),DI .i64 left] [] (fun r h=>r=DI .i64 (subZ left (szE ix+szE v+szSL bd+szSL el))∧h=[]):=by
 have hmx:=mx_eq
 have ret:∀ (u:Int) (hp:Hp),u=subZ left (szE ix+szE v+szSL bd+szSL el)→RetOb 0 (fun r h=>r=DI .i64 (subZ left (szE ix+szE v+szSL bd+szSL el))∧h=[]) (DI .i64 u) hp:=fun u hp h=>RetOb.plain (d:=DI .i64 _) ⟨by rw [h],rfl⟩ rfl
 generalize hR:(fun (r:D) (h:List (Option (List C)))=>r=DI .i64 (subZ left (szE ix+szE v+szSL bd+szSL el))∧h=[])=R at ret ⊢
 clear hR
 generalize szE ix=z1 at *
 generalize szE v=z2 at *
 generalize szSL bd=z3 at *
 generalize szSL el=z4 at *
 obtain ⟨a1,b1,c1⟩:=ix
 obtain ⟨a2,b2,c2⟩:=v
 simp only [St1.cells,Ex.cells,List.cons_append,List.nil_append,List.append_assoc] at *
 have k0:=hi (left) (by omega) (by omega)
 by_cases q0:((z1:Nat):Int)≤left
 ·rw [subZ,if_pos q0] at k0
  have g0:(left - ((z1:Nat):Int)<0)=False:=eq_false (by omega)
  have k1:=hv (left - ((z1:Nat):Int)) (by omega) (by omega)
  by_cases q1:((z2:Nat):Int)≤left - ((z1:Nat):Int)
  ·rw [subZ,if_pos q1] at k1
   have g1:(left - ((z1:Nat):Int) - ((z2:Nat):Int)<0)=False:=eq_false (by omega)
   have k2:=hb (left - ((z1:Nat):Int) - ((z2:Nat):Int)) (by omega) (by omega)
   by_cases q2:((z3:Nat):Int)≤left - ((z1:Nat):Int) - ((z2:Nat):Int)
   ·rw [subZ,if_pos q2] at k2
    have g2:(left - ((z1:Nat):Int) - ((z2:Nat):Int) - ((z3:Nat):Int)<0)=False:=eq_false (by omega)
    have k3:=he (left - ((z1:Nat):Int) - ((z2:Nat):Int) - ((z3:Nat):Int)) (by omega) (by omega)
    by_cases q3:((z4:Nat):Int)≤left - ((z1:Nat):Int) - ((z2:Nat):Int) - ((z3:Nat):Int)
    ·rw [subZ,if_pos q3] at k3
     have g3:(left - ((z1:Nat):Int) - ((z2:Nat):Int) - ((z3:Nat):Int) - ((z4:Nat):Int)<0)=False:=eq_false (by omega)
     refine dcZ Try.func137 ?_
     simp only [go_sem,g0,g1,g2,g3]
     iterate 16 ((try (refine drvZ Try.func137 ?_;simp only [go_sem,g0,g1,g2,g3]));((with_reducible and_intros)<;>try exact sd);(try first | refine XK.p k0 ok177 ?_ | refine XK.gp k0 ok177 ?_ | refine XK.p k1 ok177 ?_ | refine XK.gp k1 ok177 ?_ | refine XK.p k2 ok80 ?_ | refine XK.gp k2 ok80 ?_ | refine XK.p k3 ok80 ?_ | refine XK.gp k3 ok80 ?_))
     exact ret _ _ (by rw [subZ,if_pos (by omega)]<;>omega)
    ·rw [subZ,if_neg q3] at k3
     refine dcZ Try.func137 ?_
     simp only [go_sem,g0,g1,g2]
     iterate 16 ((try (refine drvZ Try.func137 ?_;simp only [go_sem,g0,g1,g2]));((with_reducible and_intros)<;>try exact sd);(try first | refine XK.p k0 ok177 ?_ | refine XK.gp k0 ok177 ?_ | refine XK.p k1 ok177 ?_ | refine XK.gp k1 ok177 ?_ | refine XK.p k2 ok80 ?_ | refine XK.gp k2 ok80 ?_ | refine XK.p k3 ok80 ?_ | refine XK.gp k3 ok80 ?_))
     exact ret _ _ (by rw [subZ,if_neg (by omega)])
   ·rw [subZ,if_neg q2] at k2
    refine dcZ Try.func137 ?_
    simp only [go_sem,g0,g1]
    iterate 16 ((try (refine drvZ Try.func137 ?_;simp only [go_sem,g0,g1]));((with_reducible and_intros)<;>try exact sd);(try first | refine XK.p k0 ok177 ?_ | refine XK.gp k0 ok177 ?_ | refine XK.p k1 ok177 ?_ | refine XK.gp k1 ok177 ?_ | refine XK.p k2 ok80 ?_ | refine XK.gp k2 ok80 ?_))
    exact ret _ _ (by rw [subZ,if_neg (by omega)])
  ·rw [subZ,if_neg q1] at k1
   refine dcZ Try.func137 ?_
   simp only [go_sem,g0]
   iterate 16 ((try (refine drvZ Try.func137 ?_;simp only [go_sem,g0]));((with_reducible and_intros)<;>try exact sd);(try first | refine XK.p k0 ok177 ?_ | refine XK.gp k0 ok177 ?_ | refine XK.p k1 ok177 ?_ | refine XK.gp k1 ok177 ?_))
   exact ret _ _ (by rw [subZ,if_neg (by omega)])
 ·rw [subZ,if_neg q0] at k0
  refine dcZ Try.func137 ?_
  simp only [go_sem]
  iterate 16 ((try (refine drvZ Try.func137 ?_;simp only [go_sem]));((with_reducible and_intros)<;>try exact sd);(try first | refine XK.p k0 ok177 ?_ | refine XK.gp k0 ok177 ?_))
  exact ret _ _ (by rw [subZ,if_neg (by omega)])
theorem szProgramOf (p : Pg) (hv : ∀ left : Int, 0 ≤ left → left ≤ 1048576 → DC Try.prog 66 [.c (isI p.vars), DI .i64 left] [] (fun r h => r = DI .i64 (subZ left (p.vars.length)) ∧ h = [])) (ha : ∀ left : Int, 0 ≤ left → left ≤ 1048576 → DC Try.prog 66 [.c (isI p.arrays), DI .i64 left] [] (fun r h => r = DI .i64 (subZ left (p.arrays.length)) ∧ h = [])) (hb : ∀ left : Int, 0 ≤ left → left ≤ 1048576 → DC Try.prog 80 [.c (.isl 11 (St1.cellsL p.body)), DI .i64 left] [] (fun r h => r = DI .i64 (subZ left (szSL p.body)) ∧ h = [])) (left : Int) (h0 : 0 ≤ left) (h1 : left ≤ 1048576) :
 DC Try.prog 22 [.agg p.cells,DI .i64 left] [] (fun r h=>r=DI .i64 (subZ left (p.vars.length+p.arrays.length+szSL p.body))∧h=[]):=by
 have hmx:=mx_eq
 have ret:∀ (u:Int) (hp:Hp),u=subZ left (p.vars.length+p.arrays.length+szSL p.body)→RetOb 0 (fun r h=>r=DI .i64 (subZ left (p.vars.length+p.arrays.length+szSL p.body))∧h=[]) (DI .i64 u) hp:=fun u hp h=>RetOb.plain (d:=DI .i64 _) ⟨by rw [h],rfl⟩ rfl
 generalize hR:(fun (r:D) (h:List (Option (List C)))=>r=DI .i64 (subZ left (p.vars.length+p.arrays.length+szSL p.body))∧h=[])=R at ret ⊢
 clear hR
 obtain ⟨vs,ar,bd⟩:=p
 simp only [Pg.cells] at *
 generalize hz1:vs.length=z1 at *
 generalize hz2:ar.length=z2 at *
 generalize szSL bd=z3 at *
 have k0:=hv (left) (by omega) (by omega)
 by_cases q0:((z1:Nat):Int)≤left
 ·rw [subZ,if_pos q0] at k0
  have g0:(left - ((z1:Nat):Int)<0)=False:=eq_false (by omega)
  have k1:=ha (left - ((z1:Nat):Int)) (by omega) (by omega)
  by_cases q1:((z2:Nat):Int)≤left - ((z1:Nat):Int)
  ·rw [subZ,if_pos q1] at k1
   have g1:(left - ((z1:Nat):Int) - ((z2:Nat):Int)<0)=False:=eq_false (by omega)
   have k2:=hb (left - ((z1:Nat):Int) - ((z2:Nat):Int)) (by omega) (by omega)
   by_cases q2:((z3:Nat):Int)≤left - ((z1:Nat):Int) - ((z2:Nat):Int)
   ·rw [subZ,if_pos q2] at k2
    have g2:(left - ((z1:Nat):Int) - ((z2:Nat):Int) - ((z3:Nat):Int)<0)=False:=eq_false (by omega)
    refine dcZ Try.func22 ?_
    simp only [go_sem,g0,g1,g2]
    iterate 13 ((try (refine drvZ Try.func22 ?_;simp only [go_sem,g0,g1,g2]));((with_reducible and_intros)<;>try exact sd);(try first | refine XK.p k0 ok66 ?_ | refine XK.gp k0 ok66 ?_ | refine XK.p k1 ok66 ?_ | refine XK.gp k1 ok66 ?_ | refine XK.p k2 ok80 ?_ | refine XK.gp k2 ok80 ?_))
    exact ret _ _ (by rw [subZ,if_pos (by omega)]<;>omega)
   ·rw [subZ,if_neg q2] at k2
    refine dcZ Try.func22 ?_
    simp only [go_sem,g0,g1]
    iterate 13 ((try (refine drvZ Try.func22 ?_;simp only [go_sem,g0,g1]));((with_reducible and_intros)<;>try exact sd);(try first | refine XK.p k0 ok66 ?_ | refine XK.gp k0 ok66 ?_ | refine XK.p k1 ok66 ?_ | refine XK.gp k1 ok66 ?_ | refine XK.p k2 ok80 ?_ | refine XK.gp k2 ok80 ?_))
    exact ret _ _ (by rw [subZ,if_neg (by omega)])
  ·rw [subZ,if_neg q1] at k1
   refine dcZ Try.func22 ?_
   simp only [go_sem,g0]
   iterate 13 ((try (refine drvZ Try.func22 ?_;simp only [go_sem,g0]));((with_reducible and_intros)<;>try exact sd);(try first | refine XK.p k0 ok66 ?_ | refine XK.gp k0 ok66 ?_ | refine XK.p k1 ok66 ?_ | refine XK.gp k1 ok66 ?_))
   exact ret _ _ (by rw [subZ,if_neg (by omega)])
 ·rw [subZ,if_neg q0] at k0
  refine dcZ Try.func22 ?_
  simp only [go_sem]
  iterate 13 ((try (refine drvZ Try.func22 ?_;simp only [go_sem]));((with_reducible and_intros)<;>try exact sd);(try first | refine XK.p k0 ok66 ?_ | refine XK.gp k0 ok66 ?_))
  exact ret _ _ (by rw [subZ,if_neg (by omega)])
theorem szMemoryOf (m : Mm) (hv : ∀ left : Int, 0 ≤ left → left ≤ 1048576 → DC Try.prog 66 [.c (isI m.vals), DI .i64 left] [] (fun r h => r = DI .i64 (subZ left (m.vals.length)) ∧ h = [])) (ha : ∀ left : Int, 0 ≤ left → left ≤ 1048576 → DC Try.prog 103 [.c (.isl 1 (m.arrays.map fun a => [isI a])), DI .i64 left] [] (fun r h => r = DI .i64 (subZ left (szIL m.arrays)) ∧ h = [])) (left : Int) (h0 : 0 ≤ left) (h1 : left ≤ 1048576) :
 DC Try.prog 44 [.agg m.cells,DI .i64 left] [] (fun r h=>r=DI .i64 (subZ left (m.vals.length+szIL m.arrays))∧h=[]):=by
 have hmx:=mx_eq
 have ret:∀ (u:Int) (hp:Hp),u=subZ left (m.vals.length+szIL m.arrays)→RetOb 0 (fun r h=>r=DI .i64 (subZ left (m.vals.length+szIL m.arrays))∧h=[]) (DI .i64 u) hp:=fun u hp h=>RetOb.plain (d:=DI .i64 _) ⟨by rw [h],rfl⟩ rfl
 generalize hR:(fun (r:D) (h:List (Option (List C)))=>r=DI .i64 (subZ left (m.vals.length+szIL m.arrays))∧h=[])=R at ret ⊢
 clear hR
 obtain ⟨va,arr⟩:=m
 simp only [Mm.cells] at *
 generalize hz1:va.length=z1 at *
 generalize szIL arr=z2 at *
 have k0:=hv (left) (by omega) (by omega)
 by_cases q0:((z1:Nat):Int)≤left
 ·rw [subZ,if_pos q0] at k0
  have g0:(left - ((z1:Nat):Int)<0)=False:=eq_false (by omega)
  have k1:=ha (left - ((z1:Nat):Int)) (by omega) (by omega)
  by_cases q1:((z2:Nat):Int)≤left - ((z1:Nat):Int)
  ·rw [subZ,if_pos q1] at k1
   have g1:(left - ((z1:Nat):Int) - ((z2:Nat):Int)<0)=False:=eq_false (by omega)
   refine dcZ Try.func44 ?_
   simp only [go_sem,g0,g1]
   iterate 10 ((try (refine drvZ Try.func44 ?_;simp only [go_sem,g0,g1]));((with_reducible and_intros)<;>try exact sd);(try first | refine XK.p k0 ok66 ?_ | refine XK.gp k0 ok66 ?_ | refine XK.p k1 ok103 ?_ | refine XK.gp k1 ok103 ?_))
   exact ret _ _ (by rw [subZ,if_pos (by omega)]<;>omega)
  ·rw [subZ,if_neg q1] at k1
   refine dcZ Try.func44 ?_
   simp only [go_sem,g0]
   iterate 10 ((try (refine drvZ Try.func44 ?_;simp only [go_sem,g0]));((with_reducible and_intros)<;>try exact sd);(try first | refine XK.p k0 ok66 ?_ | refine XK.gp k0 ok66 ?_ | refine XK.p k1 ok103 ?_ | refine XK.gp k1 ok103 ?_))
   exact ret _ _ (by rw [subZ,if_neg (by omega)])
 ·rw [subZ,if_neg q0] at k0
  refine dcZ Try.func44 ?_
  simp only [go_sem]
  iterate 10 ((try (refine drvZ Try.func44 ?_;simp only [go_sem]));((with_reducible and_intros)<;>try exact sd);(try first | refine XK.p k0 ok66 ?_ | refine XK.gp k0 ok66 ?_))
  exact ret _ _ (by rw [subZ,if_neg (by omega)])
theorem szExpr_c : ∀ (n : Nat) (e : Ex), SizeOf.sizeOf e ≤ n → ExB e → ∀ left : Int, 0 ≤ left → left ≤ 1048576 → DC Try.prog 177 [.agg e.cells, DI .i64 left] [] (fun r h => r = DI .i64 (subZ left (szE e)) ∧ h = [])
 | 0,.mk k v ks,h,_=>by simp at h
 | n+1,.mk k v ks,h,hb=>fun left h0 h1=>by
  cases hb with
  | mk _ _ _ hl hk =>
   rw [show szE (.mk k v ks)=szEL ks by simp only [szE]]
   rw [show Ex.cells (.mk k v ks)=[I64 k,I64 v,.isl 3 (Ex.cellsL ks)] by simp only [Ex.cells]]
   exact szExprOf k v ks (szExprSOf ks hl fun x hx=>szExpr_c n x (by have:=List.sizeOf_lt_of_mem hx;simp only [Ex.mk.sizeOf_spec] at h;omega) (hk x hx)) left h0 h1
theorem szStmt_c : ∀ (n : Nat) (s : St1), SizeOf.sizeOf s ≤ n → StB s → ∀ left : Int, 0 ≤ left → left ≤ 1048576 → DC Try.prog 137 [.agg s.cells, DI .i64 left] [] (fun r h => r = DI .i64 (subZ left (szS s)) ∧ h = [])
 | 0,.mk k t ix v c b e,h,_=>by simp at h
 | n+1,.mk k t ix v c b e,h,hb=>fun left h0 h1=>by
  cases hb with
  | mk _ _ _ _ _ _ _ g1 g2 g3 g4 g5 g6 =>
   simp only [St1.mk.sizeOf_spec] at h
   rw [show szS (.mk k t ix v c b e)=szE ix+szE v+szSL b+szSL e by simp only [szS]]
   exact szStmtOf k t ix v c b e (szExpr_c _ ix (Nat.le_refl _) g1) (szExpr_c _ v (Nat.le_refl _) g2) (szStmtSOf b g3 fun x hx => szStmt_c n x (by have := List.sizeOf_lt_of_mem hx; omega) (g5 x hx))
    (szStmtSOf e g4 fun x hx=>szStmt_c n x (by have:=List.sizeOf_lt_of_mem hx;omega) (g6 x hx)) left h0 h1
theorem szProgram_c (p:Pg) (hb:PgB p) (left:Int) (h0:0≤left) (h1:left≤1048576):DC Try.prog 22 [.agg p.cells,DI .i64 left] [] (fun r h=>r=DI .i64 (subZ left (szP p))∧h=[]) :=
 szProgramOf p (fun l a b=>szIntS p.vars hb.nv l a b) (fun l a b=>szIntS p.arrays hb.na l a b) (szStmtSOf p.body hb.nb fun x hx=>szStmt_c _ x (Nat.le_refl _) (hb.st x hx)) left h0 h1
theorem szMemory_c (m:Mm) (hb:MmB m) (left:Int) (h0:0≤left) (h1:left≤1048576):DC Try.prog 44 [.agg m.cells,DI .i64 left] [] (fun r h=>r=DI .i64 (subZ left (szM m))∧h=[]) :=
 szMemoryOf m (fun l a b=>szIntS m.vals hb.nv l a b) (szIntSSOf m.arrays hb.na fun x hx l a b=>szIntS x (hb.ar x hx) l a b) left h0 h1
theorem eqIntST (l:List (Int)) (hl:l.length≤mx)  : DC Try.prog 48 [.c (.isl 1 ((l.map fun n=>[I64 n]))),.c (.isl 1 ((l.map fun n=>[I64 n])))] [] (fun r h=>r=DB true∧h=[]):=by
 have hmx:=mx_eq
 have ret:∀ hp:Hp,RetOb 0 (fun r h=>r=DB true∧h=[]) (DB true) hp:=fun hp=>RetOb.plain (d:=DB true) ⟨rfl,rfl⟩ rfl
 generalize hR:(fun (r:D) (h:List (Option (List C)))=>r=DB true∧h=[])=R at ret ⊢
 clear hR
 have hrl:((l.map fun n=>[I64 n])).length=l.length:=by simp [List.length_map]
 have hrx:∀ (i:Nat) x,l[i]? = some x→True:=fun _ _ _=>trivial
 refine dcZ Try.func48 ?_
 simp only [go_sem,hrl,bne_self_eq_false]
 iterate 4 ((try (refine drvZ Try.func48 ?_;simp only [go_sem,hrl,bne_self_eq_false]));((with_reducible and_intros)<;>try exact sd))
 refine Go.loopQ (fun i:Nat=>[(0,.c (.isl 1 ((l.map fun n=>[I64 n])))),(1,.c (.isl 1 ((l.map fun n=>[I64 n])))),(5,DI .i64 i)]) (fun _=>[]) 1024 (fun i=>i≤l.length) (fun i=>l.length - i) ?_ 0 some [] _ (by omega) ?_
 ·intro i hi again
  rcases Nat.lt_or_ge i l.length with hlt | hge
  ·obtain ⟨x,hx⟩:∃ x,l[i]? = some x:=⟨l[i],by simp [hlt]⟩
   have hxl:((l.map fun n=>[I64 n]))[i]? = some [I64 x]:=by rw [List.getElem?_map,hx];rfl
   generalize hRW:(l.map fun n=>[I64 n])=rows at *
   refine drvL Try.func48 ?_
   simp only [go_sem,hrl,hlt,hxl,bne_self_eq_false]
   iterate 6 ((try (refine drvZ Try.func48 ?_;simp only [go_sem,hrl,hlt,hxl,bne_self_eq_false]));((with_reducible and_intros)<;>try exact sd))
   refine again (i+1) some [] _ hlt (by omega) ?_
   simp only [go_sem,TmOK,DM,DMs,CM,CMs,forall_eq,exists_eq_left,Mq,HpOK,LowOK]
   try simp
  ·have hn:¬ i<l.length:=by omega
   generalize hRW:(l.map fun n=>[I64 n])=rows at *
   refine drvL Try.func48 ?_
   simp only [go_sem,hrl,hn]
   iterate 3 ((try (refine drvZ Try.func48 ?_;simp only [go_sem,hrl,hn]));((with_reducible and_intros)<;>try exact sd))
   exact ret _
 ·simp only [go_sem,TmOK,DM,DMs,CM,CMs,forall_eq,exists_eq_left,Mq,HpOK,LowOK]
  try simp
theorem eqIntSSOf (l:List (List Int)) (hl:l.length≤mx) (hc:∀ x ∈ l,DC Try.prog 48 [.c (isI x),.c (isI x)] [] (fun r h=>r=DB true∧h=[])):DC Try.prog 105 [.c (.isl 1 ((l.map fun a=>[isI a]))),.c (.isl 1 ((l.map fun a=>[isI a])))] [] (fun r h=>r=DB true∧h=[]):=by
 have hmx:=mx_eq
 have ret:∀ hp:Hp,RetOb 0 (fun r h=>r=DB true∧h=[]) (DB true) hp:=fun hp=>RetOb.plain (d:=DB true) ⟨rfl,rfl⟩ rfl
 generalize hR:(fun (r:D) (h:List (Option (List C)))=>r=DB true∧h=[])=R at ret ⊢
 clear hR
 have hrl:((l.map fun a=>[isI a])).length=l.length:=by simp [List.length_map]
 have hrx:∀ (i:Nat) x,l[i]? = some x→True:=fun _ _ _=>trivial
 refine dcZ Try.func105 ?_
 simp only [go_sem,hrl,bne_self_eq_false]
 iterate 4 ((try (refine drvZ Try.func105 ?_;simp only [go_sem,hrl,bne_self_eq_false]));((with_reducible and_intros)<;>try exact sd))
 refine Go.loopQ (fun i:Nat=>[(0,.c (.isl 1 ((l.map fun a=>[isI a])))),(1,.c (.isl 1 ((l.map fun a=>[isI a])))),(5,DI .i64 i)]) (fun _=>[]) 1024 (fun i=>i≤l.length) (fun i=>l.length - i) ?_ 0 some [] _ (by omega) ?_
 ·intro i hi again
  rcases Nat.lt_or_ge i l.length with hlt | hge
  ·obtain ⟨x,hx⟩:∃ x,l[i]? = some x:=⟨l[i],by simp [hlt]⟩
   have hxl:((l.map fun a=>[isI a]))[i]? = some [isI x]:=by rw [List.getElem?_map,hx];rfl
   have hcx:=hc x (List.mem_of_getElem? hx)
   generalize hRW:(l.map fun a=>[isI a])=rows at *
   refine drvL Try.func105 ?_
   simp only [go_sem,hrl,hlt,hxl,bne_self_eq_false]
   iterate 6 ((try (refine drvZ Try.func105 ?_;simp only [go_sem,hrl,hlt,hxl,bne_self_eq_false]));((with_reducible and_intros)<;>try exact sd);(try first | refine XK.p hcx ok48 ?_ | refine XK.gp hcx ok48 ?_))
   refine again (i+1) some [] _ hlt (by omega) ?_
   simp only [go_sem,TmOK,DM,DMs,CM,CMs,forall_eq,exists_eq_left,Mq,HpOK,LowOK]
   try simp
  ·have hn:¬ i<l.length:=by omega
   generalize hRW:(l.map fun a=>[isI a])=rows at *
   refine drvL Try.func105 ?_
   simp only [go_sem,hrl,hn]
   iterate 3 ((try (refine drvZ Try.func105 ?_;simp only [go_sem,hrl,hn]));((with_reducible and_intros)<;>try exact sd))
   exact ret _
 ·simp only [go_sem,TmOK,DM,DMs,CM,CMs,forall_eq,exists_eq_left,Mq,HpOK,LowOK]
  try simp
theorem eqExprSOf (l:List (Ex)) (hl:l.length≤mx) (hc:∀ x ∈ l,DC Try.prog 185 [.agg x.cells,.agg x.cells] [] (fun r h=>r=DB true∧h=[])):DC Try.prog 212 [.c (.isl 3 (Ex.cellsL l)),.c (.isl 3 (Ex.cellsL l))] [] (fun r h=>r=DB true∧h=[]):=by
 have hmx:=mx_eq
 have ret:∀ hp:Hp,RetOb 0 (fun r h=>r=DB true∧h=[]) (DB true) hp:=fun hp=>RetOb.plain (d:=DB true) ⟨rfl,rfl⟩ rfl
 generalize hR:(fun (r:D) (h:List (Option (List C)))=>r=DB true∧h=[])=R at ret ⊢
 clear hR
 have hrl:(Ex.cellsL l).length=l.length:=by simp [Ex.cellsL_length]
 have hrx:∀ (i:Nat) x,l[i]? = some x→True:=fun _ _ _=>trivial
 refine dcZ Try.func212 ?_
 simp only [go_sem,hrl,bne_self_eq_false]
 iterate 4 ((try (refine drvZ Try.func212 ?_;simp only [go_sem,hrl,bne_self_eq_false]));((with_reducible and_intros)<;>try exact sd))
 refine Go.loopQ (fun i:Nat=>[(0,.c (.isl 3 (Ex.cellsL l))),(1,.c (.isl 3 (Ex.cellsL l))),(5,DI .i64 i)]) (fun _=>[]) 1024 (fun i=>i≤l.length) (fun i=>l.length - i) ?_ 0 some [] _ (by omega) ?_
 ·intro i hi again
  rcases Nat.lt_or_ge i l.length with hlt | hge
  ·obtain ⟨x,hx⟩:∃ x,l[i]? = some x:=⟨l[i],by simp [hlt]⟩
   have hcx:=hc x (List.mem_of_getElem? hx)
   obtain ⟨k0,v0,ks0⟩:=x
   have hxl:(Ex.cellsL l)[i]? = some [I64 k0,I64 v0,.isl 3 (Ex.cellsL ks0)]:=by rw [Ex.cellsL_eq,List.getElem?_map,hx];rfl
   simp only [Ex.cells,St1.cells,List.cons_append,List.nil_append,List.append_assoc] at hcx
   generalize hRW:Ex.cellsL l=rows at *
   refine drvL Try.func212 ?_
   simp only [go_sem,hrl,hlt,hxl,bne_self_eq_false]
   iterate 6 ((try (refine drvZ Try.func212 ?_;simp only [go_sem,hrl,hlt,hxl,bne_self_eq_false]));((with_reducible and_intros)<;>try exact sd);(try first | refine XK.p hcx ok185 ?_ | refine XK.gp hcx ok185 ?_))
   refine again (i+1) some [] _ hlt (by omega) ?_
   simp only [go_sem,TmOK,DM,DMs,CM,CMs,forall_eq,exists_eq_left,Mq,HpOK,LowOK]
   try simp
  ·have hn:¬ i<l.length:=by omega
   generalize hRW:Ex.cellsL l=rows at *
   refine drvL Try.func212 ?_
   simp only [go_sem,hrl,hn]
   iterate 3 ((try (refine drvZ Try.func212 ?_;simp only [go_sem,hrl,hn]));((with_reducible and_intros)<;>try exact sd))
   exact ret _
 ·simp only [go_sem,TmOK,DM,DMs,CM,CMs,forall_eq,exists_eq_left,Mq,HpOK,LowOK]
  try simp
theorem eqStmtSOf (l:List (St1)) (hl:l.length≤mx) (hc:∀ x ∈ l,DC Try.prog 148 [.agg x.cells,.agg x.cells] [] (fun r h=>r=DB true∧h=[])):DC Try.prog 90 [.c (.isl 11 (St1.cellsL l)),.c (.isl 11 (St1.cellsL l))] [] (fun r h=>r=DB true∧h=[]):=by
 have hmx:=mx_eq
 have ret:∀ hp:Hp,RetOb 0 (fun r h=>r=DB true∧h=[]) (DB true) hp:=fun hp=>RetOb.plain (d:=DB true) ⟨rfl,rfl⟩ rfl
 generalize hR:(fun (r:D) (h:List (Option (List C)))=>r=DB true∧h=[])=R at ret ⊢
 clear hR
 have hrl:(St1.cellsL l).length=l.length:=by simp [St1.cellsL_length]
 have hrx:∀ (i:Nat) x,l[i]? = some x→True:=fun _ _ _=>trivial
 refine dcZ Try.func90 ?_
 simp only [go_sem,hrl,bne_self_eq_false]
 iterate 4 ((try (refine drvZ Try.func90 ?_;simp only [go_sem,hrl,bne_self_eq_false]));((with_reducible and_intros)<;>try exact sd))
 refine Go.loopQ (fun i:Nat=>[(0,.c (.isl 11 (St1.cellsL l))),(1,.c (.isl 11 (St1.cellsL l))),(5,DI .i64 i)]) (fun _=>[]) 1024 (fun i=>i≤l.length) (fun i=>l.length - i) ?_ 0 some [] _ (by omega) ?_
 ·intro i hi again
  rcases Nat.lt_or_ge i l.length with hlt | hge
  ·obtain ⟨x,hx⟩:∃ x,l[i]? = some x:=⟨l[i],by simp [hlt]⟩
   have hcx:=hc x (List.mem_of_getElem? hx)
   obtain ⟨k0,t0,⟨a1,b1,c1⟩,⟨a2,b2,c2⟩,c0,bd0,el0⟩:=x
   have hxl:(St1.cellsL l)[i]? = some [I64 k0,I64 t0,I64 a1,I64 b1,.isl 3 (Ex.cellsL c1),I64 a2,I64 b2,.isl 3 (Ex.cellsL c2),I64 c0,.isl 11 (St1.cellsL bd0),.isl 11 (St1.cellsL el0)]:=by rw [St1.cellsL_eq,List.getElem?_map,hx];rfl
   simp only [Ex.cells,St1.cells,List.cons_append,List.nil_append,List.append_assoc] at hcx
   generalize hRW:St1.cellsL l=rows at *
   refine drvL Try.func90 ?_
   simp only [go_sem,hrl,hlt,hxl,bne_self_eq_false]
   iterate 6 ((try (refine drvZ Try.func90 ?_;simp only [go_sem,hrl,hlt,hxl,bne_self_eq_false]));((with_reducible and_intros)<;>try exact sd);(try first | refine XK.p hcx ok148 ?_ | refine XK.gp hcx ok148 ?_))
   refine again (i+1) some [] _ hlt (by omega) ?_
   simp only [go_sem,TmOK,DM,DMs,CM,CMs,forall_eq,exists_eq_left,Mq,HpOK,LowOK]
   try simp
  ·have hn:¬ i<l.length:=by omega
   generalize hRW:St1.cellsL l=rows at *
   refine drvL Try.func90 ?_
   simp only [go_sem,hrl,hn]
   iterate 3 ((try (refine drvZ Try.func90 ?_;simp only [go_sem,hrl,hn]));((with_reducible and_intros)<;>try exact sd))
   exact ret _
 ·simp only [go_sem,TmOK,DM,DMs,CM,CMs,forall_eq,exists_eq_left,Mq,HpOK,LowOK]
  try simp
theorem eqExprOf (k v:Int) (ks:List Ex) (hc:DC Try.prog 212 [.c (.isl 3 (Ex.cellsL ks)),.c (.isl 3 (Ex.cellsL ks))] [] (fun r h=>r=DB true∧h=[])):DC Try.prog 185 [.agg [I64 k,I64 v,.isl 3 (Ex.cellsL ks)],.agg [I64 k,I64 v,.isl 3 (Ex.cellsL ks)]] [] (fun r h=>r=DB true∧h=[]):=by
 have hmx:=mx_eq
 have ret:∀ hp:Hp,RetOb 0 (fun r h=>r=DB true∧h=[]) (DB true) hp:=fun hp=>RetOb.plain (d:=DB true) ⟨rfl,rfl⟩ rfl
 generalize hR:(fun (r:D) (h:List (Option (List C)))=>r=DB true∧h=[])=R at ret ⊢
 clear hR
 refine dcZ Try.func185 ?_
 simp only [go_sem,bne_self_eq_false]
 iterate 10 ((try (refine drvZ Try.func185 ?_;simp only [go_sem,bne_self_eq_false]));((with_reducible and_intros)<;>try exact sd);(try first | refine XK.p hc ok212 ?_ | refine XK.gp hc ok212 ?_))
 exact ret _
theorem eqStmtOf (k t:Int) (ix v:Ex) (c:Int) (bd el:List St1) (hi:DC Try.prog 185 [.agg ix.cells,.agg ix.cells] [] (fun r h=>r=DB true∧h=[])) (hv:DC Try.prog 185 [.agg v.cells,.agg v.cells] [] (fun r h=>r=DB true∧h=[])) (hb:DC Try.prog 90 [.c (.isl 11 (St1.cellsL bd)),.c (.isl 11 (St1.cellsL bd))] [] (fun r h=>r=DB true∧h=[])) (he:DC Try.prog 90 [.c (.isl 11 (St1.cellsL el)),.c (.isl 11 (St1.cellsL el))] [] (fun r h=>r=DB true∧h=[])):DC Try.prog 148 [.agg (St1.cells (.mk k t ix v c bd el)),.agg (St1.cells (.mk k t ix v c bd el))] [] (fun r h=>r=DB true∧h=[]):=by
 have hmx:=mx_eq
 have ret:∀ hp:Hp,RetOb 0 (fun r h=>r=DB true∧h=[]) (DB true) hp:=fun hp=>RetOb.plain (d:=DB true) ⟨rfl,rfl⟩ rfl
 generalize hR:(fun (r:D) (h:List (Option (List C)))=>r=DB true∧h=[])=R at ret ⊢
 clear hR
 obtain ⟨a1,b1,c1⟩:=ix
 obtain ⟨a2,b2,c2⟩:=v
 simp only [St1.cells,Ex.cells,List.cons_append,List.nil_append,List.append_assoc] at *
 refine dcZ Try.func148 ?_
 simp only [go_sem,bne_self_eq_false]
 iterate 24 ((try (refine drvZ Try.func148 ?_;simp only [go_sem,bne_self_eq_false]));((with_reducible and_intros)<;>try exact sd);(try first | refine XK.p hi ok185 ?_ | refine XK.gp hi ok185 ?_ | refine XK.p hv ok185 ?_ | refine XK.gp hv ok185 ?_ | refine XK.p hb ok90 ?_ | refine XK.gp hb ok90 ?_ | refine XK.p he ok90 ?_ | refine XK.gp he ok90 ?_))
 exact ret _
theorem eqProgramOf (p:Pg) (hv:DC Try.prog 48 [.c (isI p.vars),.c (isI p.vars)] [] (fun r h=>r=DB true∧h=[])) (ha:DC Try.prog 48 [.c (isI p.arrays),.c (isI p.arrays)] [] (fun r h=>r=DB true∧h=[])) (hb:DC Try.prog 90 [.c (.isl 11 (St1.cellsL p.body)),.c (.isl 11 (St1.cellsL p.body))] [] (fun r h=>r=DB true∧h=[])):DC Try.prog 27 [.agg p.cells,.agg p.cells] [] (fun r h=>r=DB true∧h=[]):=by
 have hmx:=mx_eq
 have ret:∀ hp:Hp,RetOb 0 (fun r h=>r=DB true∧h=[]) (DB true) hp:=fun hp=>RetOb.plain (d:=DB true) ⟨rfl,rfl⟩ rfl
 generalize hR:(fun (r:D) (h:List (Option (List C)))=>r=DB true∧h=[])=R at ret ⊢
 clear hR
 obtain ⟨vs,ar,bd⟩:=p
 simp only [Pg.cells] at *
 refine dcZ Try.func27 ?_
 simp only [go_sem,bne_self_eq_false]
 iterate 14 ((try (refine drvZ Try.func27 ?_;simp only [go_sem,bne_self_eq_false]));((with_reducible and_intros)<;>try exact sd);(try first | refine XK.p hv ok48 ?_ | refine XK.gp hv ok48 ?_ | refine XK.p ha ok48 ?_ | refine XK.gp ha ok48 ?_ | refine XK.p hb ok90 ?_ | refine XK.gp hb ok90 ?_))
 exact ret _
theorem eqMemoryOf (m:Mm) (hv:DC Try.prog 48 [.c (isI m.vals),.c (isI m.vals)] [] (fun r h=>r=DB true∧h=[])) (ha:DC Try.prog 105 [.c (.isl 1 (m.arrays.map fun a=>[isI a])),.c (.isl 1 (m.arrays.map fun a=>[isI a]))] [] (fun r h=>r=DB true∧h=[])):DC Try.prog 49 [.agg m.cells,.agg m.cells] [] (fun r h=>r=DB true∧h=[]):=by
 have hmx:=mx_eq
 have ret:∀ hp:Hp,RetOb 0 (fun r h=>r=DB true∧h=[]) (DB true) hp:=fun hp=>RetOb.plain (d:=DB true) ⟨rfl,rfl⟩ rfl
 generalize hR:(fun (r:D) (h:List (Option (List C)))=>r=DB true∧h=[])=R at ret ⊢
 clear hR
 obtain ⟨va,arr⟩:=m
 simp only [Mm.cells] at *
 refine dcZ Try.func49 ?_
 simp only [go_sem,bne_self_eq_false]
 iterate 10 ((try (refine drvZ Try.func49 ?_;simp only [go_sem,bne_self_eq_false]));((with_reducible and_intros)<;>try exact sd);(try first | refine XK.p hv ok48 ?_ | refine XK.gp hv ok48 ?_ | refine XK.p ha ok105 ?_ | refine XK.gp ha ok105 ?_))
 exact ret _
theorem eqExpr_c : ∀ (n : Nat) (e : Ex), SizeOf.sizeOf e ≤ n → ExB e → DC Try.prog 185 [.agg e.cells, .agg e.cells] [] (fun r h => r = DB true ∧ h = [])
 | 0,.mk k v ks,h,_=>by simp at h
 | n+1,.mk k v ks,h,hb=>by
  cases hb with
  | mk _ _ _ hl hk =>
   rw [show Ex.cells (.mk k v ks)=[I64 k,I64 v,.isl 3 (Ex.cellsL ks)] by simp only [Ex.cells]]
   exact eqExprOf k v ks (eqExprSOf ks hl fun x hx=>eqExpr_c n x (by have:=List.sizeOf_lt_of_mem hx;simp only [Ex.mk.sizeOf_spec] at h;omega) (hk x hx))
theorem eqStmt_c : ∀ (n : Nat) (s : St1), SizeOf.sizeOf s ≤ n → StB s → DC Try.prog 148 [.agg s.cells, .agg s.cells] [] (fun r h => r = DB true ∧ h = [])
 | 0,.mk k t ix v c b e,h,_=>by simp at h
 | n+1,.mk k t ix v c b e,h,hb=>by
  cases hb with
  | mk _ _ _ _ _ _ _ g1 g2 g3 g4 g5 g6 =>
   simp only [St1.mk.sizeOf_spec] at h
   exact eqStmtOf k t ix v c b e (eqExpr_c _ ix (Nat.le_refl _) g1) (eqExpr_c _ v (Nat.le_refl _) g2) (eqStmtSOf b g3 fun x hx => eqStmt_c n x (by have := List.sizeOf_lt_of_mem hx; omega) (g5 x hx))
    (eqStmtSOf e g4 fun x hx=>eqStmt_c n x (by have:=List.sizeOf_lt_of_mem hx;omega) (g6 x hx))
theorem eqProgram_c (p:Pg) (hb:PgB p):DC Try.prog 27 [.agg p.cells,.agg p.cells] [] (fun r h=>r=DB true∧h=[]) :=
 eqProgramOf p (eqIntST p.vars hb.nv) (eqIntST p.arrays hb.na) (eqStmtSOf p.body hb.nb fun x hx=>eqStmt_c _ x (Nat.le_refl _) (hb.st x hx))
theorem eqMemory_c (m:Mm) (hb:MmB m):DC Try.prog 49 [.agg m.cells,.agg m.cells] [] (fun r h=>r=DB true∧h=[]) :=
 eqMemoryOf m (eqIntST m.vals hb.nv) (eqIntSSOf m.arrays hb.na fun x hx=>eqIntST x (hb.ar x hx))
structure PgN (p : Pg) : Prop where
 nv:p.vars.length≤1048576
 na:p.arrays.length≤1048576
 nb:p.body.length≤1048576
 st:∀ s ∈ p.body,StN s
structure MmN (m : Mm) : Prop where
 nv:m.vals.length≤1048576
 na:m.arrays.length≤1048576
 ar:∀ a ∈ m.arrays,a.length≤1048576
theorem pgN_of {p:Pg} (h:szP p≤1048576):PgN p:=by
 unfold szP at h
 rw [szSL_eq] at h
 have h1:=sum_split szS p.body
 exact ⟨by omega,by omega,by omega,fun s hs=>stN_of _ s (Nat.le_refl _) (by have:=mem_sum szS hs;omega)⟩
theorem mmN_of {m:Mm} (h:szM m≤1048576):MmN m:=by
 unfold szM at h
 rw [szIL_eq] at h
 have h1:=sum_split List.length m.arrays
 exact ⟨by omega,by omega,fun a ha=>by have:=mem_sum List.length ha;omega⟩
theorem tsize_le : ∀ (d : Nat) (s : St1), tsize d s ≤ 1 + szS s
 | 0,s=>by simp [tsize]
 | d+1,.mk k t ix v c b e=>by
  have h:∀ l:List St1,(l.map (tsize d)).sum≤szSL l:=fun l=>by
   induction l with
   | nil=>simp [szSL]
   | cons a r ih =>
    have:=tsize_le d a
    simp only [List.map_cons,List.sum_cons,szSL];omega
  have h1:=h b
  have h2:=h e
  simp only [tsize,szS];omega
theorem lsize_le (d : Nat) : ∀ l : List St1, lsize d l ≤ szSL l
 | []=>by simp [lsize,szSL]
 | a :: r=>by
  have h1:=tsize_le d a
  have h2:=lsize_le d r
  unfold lsize at h2 ⊢
  simp only [List.map_cons,List.sum_cons,szSL];omega
end Go.Proofs.Ytddanjifhdaebaa.CtD
