/- Contracts of functions of the program, one behind the other, as plain data: what each call returns and which blocks it leaves. -/
import Derived.Test.YtlapccpnilomfaaJFacts
import Derived.Test.YtlapccpnilomfaaJAn
import Derived.Test.YtlapccpnilomfaaJAp
import Derived.Test.YtlapccpnilomfaaJAr
import Derived.Test.YtlapccpnilomfaaJAu
import Derived.Test.YtlapccpnilomfaaJAo
set_option linter.unusedVariables false
set_option linter.unusedSimpArgs false
set_option linter.unusedSectionVars false
set_option maxHeartbeats 16000000
set_option maxRecDepth 100000
namespace Go.Proofs.Ytlapccpnilomfaa.CtD
open Go Go.CT CtF CtR
variable [Yn]
theorem szIntS (xs:List Int) (hl:xs.length≤mx) (left:Int) (h0:0≤left) (h1:left≤1048576):DC Try.prog 14 [.c (isI xs),DI .i64 left] [] (fun r h=>r=DI .i64 (subZ left xs.length)∧h=[]):=by
 have hmx:=mx_eq
 have ret:∀ (v:Int) (hp:Hp),v=subZ left xs.length→RetOb 0 (fun r h=>r=DI .i64 (subZ left xs.length)∧h=[]) (DI .i64 v) hp:=fun v hp h=>RetOb.plain (d:=DI .i64 _) ⟨by rw [h],rfl⟩ rfl
 generalize hR:(fun (r:D) (h:List (Option (List C)))=>r=DI .i64 (subZ left xs.length)∧h=[])=R at ret ⊢
 clear hR
 by_cases hq:(xs.length:Int)≤left
 ·have g:(left - (xs.length:Int)<0)=False:=eq_false (by omega)
  refine dcZ Try.func14 ?_
  simp only [go_sem,List.length_map,g]
  iterate 4 ((try (refine drvZ Try.func14 ?_;simp only [go_sem,List.length_map,g]));((with_reducible and_intros)<;>try exact sd))
  exact ret _ _ (by rw [subZ,if_pos hq])
 ·have g:(left - (xs.length:Int)<0)=True:=eq_true (by omega)
  refine dcZ Try.func14 ?_
  simp only [go_sem,List.length_map,g]
  iterate 4 ((try (refine drvZ Try.func14 ?_;simp only [go_sem,List.length_map,g]));((with_reducible and_intros)<;>try exact sd))
  exact ret _ _ (by rw [subZ,if_neg hq])
theorem szExprSOf (l : List (Ex)) (hl : l.length ≤ mx) (hc : ∀ x ∈ l, ∀ left : Int, 0 ≤ left → left ≤ 1048576 → DC Try.prog 50 [.agg x.cells, DI .i64 left] [] (fun r h => r = DI .i64 (subZ left (szE x)) ∧ h = [])) (left : Int) (h0 : 0 ≤ left) (h1 : left ≤ 1048576) :
 DC Try.prog 58 [.c (.isl 3 (Ex.cellsL l)),DI .i64 left] [] (fun r h=>r=DI .i64 (subZ left (szEL l))∧h=[]):=by
 have hmx:=mx_eq
 have ret:∀ (v:Int) (hp:Hp),v=subZ left (szEL l)→RetOb 0 (fun r h=>r=DI .i64 (subZ left (szEL l))∧h=[]) (DI .i64 v) hp:=fun v hp h=>RetOb.plain (d:=DI .i64 _) ⟨by rw [h],rfl⟩ rfl
 generalize hR:(fun (r:D) (h:List (Option (List C)))=>r=DI .i64 (subZ left (szEL l))∧h=[])=R at ret ⊢
 clear hR
 rw [szEL_eq,sum_split] at ret
 have hrl:(Ex.cellsL l).length=l.length:=by simp [Ex.cellsL_length]
 by_cases hq:(l.length:Int)≤left
 ·have g:(left - (l.length:Int)<0)=False:=eq_false (by omega)
  refine dcZ Try.func58 ?_
  simp only [go_sem,hrl,g]
  iterate 4 ((try (refine drvZ Try.func58 ?_;simp only [go_sem,hrl,g]));((with_reducible and_intros)<;>try exact sd))
  refine Go.loopQ (fun i:Nat=>[(0,.c (.isl 3 (Ex.cellsL l))),(1,DI .i64 (left - l.length - ((l.take i).map (szE)).sum)),(5,DI .i64 i)]) (fun _=>[]) 1024 (fun i=>i≤l.length∧(l.length+((l.take i).map (szE)).sum:Int)≤left) (fun i=>l.length - i) ?_ 0 some [] _ ⟨by omega,by simpa using hq⟩ ?_
  ·rintro i ⟨hi,hI⟩ again
   rcases Nat.lt_or_ge i l.length with hlt | hge
   ·obtain ⟨x,hx⟩:∃ x,l[i]? = some x:=⟨l[i],by simp [hlt]⟩
    have hst:=sum_take (szE) hx
    have hcx:=hc x (List.mem_of_getElem? hx) (left - l.length - ((l.take i).map (szE)).sum) (by omega) (by omega)
    generalize hB:((l.take i).map (szE)).sum=B at *
    have hB2:=hst.1
    have hB3:=hst.2
    by_cases hq2:(szE x:Int)≤left - l.length - B
    ·rw [subZ,if_pos hq2] at hcx
     have g2:(left - (l.length:Int) - (B:Int) - (szE x:Int)<0)=False:=eq_false (by omega)
     have hnx:left - (l.length:Int) - (((l.take (i+1)).map (szE)).sum:Int)=left - l.length - B - szE x:=by rw [hB2];omega
     generalize szE x=z at *
     obtain ⟨k0,v0,ks0⟩:=x
     have hxl:(Ex.cellsL l)[i]? = some [I64 k0,I64 v0,.isl 3 (Ex.cellsL ks0)]:=by rw [Ex.cellsL_eq,List.getElem?_map,hx];rfl
     simp only [Ex.cells,Ex.cells,List.cons_append,List.nil_append,List.append_assoc] at hcx
     generalize hRW:Ex.cellsL l=rows at *
     refine drvL Try.func58 ?_
     simp only [go_sem,hrl,hlt,hxl]
     iterate 6 ((try (refine drvZ Try.func58 ?_;simp only [go_sem,hrl,hlt,hxl,g2]));((with_reducible and_intros)<;>try exact sd);(try first | refine XK.p hcx ok50 ?_ | refine XK.gp hcx ok50 ?_))
     refine again (i+1) some [] _ ⟨hlt,by omega⟩ (by omega) ?_
     simp only [go_sem,TmOK,DM,DMs,CM,CMs,forall_eq,exists_eq_left,Mq,HpOK,LowOK]
     simp only [List.map_take] at hnx
     simp [hnx]
    ·rw [subZ,if_neg hq2] at hcx
     have htot:¬ ((l.length+(l.map (szE)).sum:Nat):Int)≤left:=by omega
     generalize szE x=z at *
     obtain ⟨k0,v0,ks0⟩:=x
     have hxl:(Ex.cellsL l)[i]? = some [I64 k0,I64 v0,.isl 3 (Ex.cellsL ks0)]:=by rw [Ex.cellsL_eq,List.getElem?_map,hx];rfl
     simp only [Ex.cells,Ex.cells,List.cons_append,List.nil_append,List.append_assoc] at hcx
     generalize hRW:Ex.cellsL l=rows at *
     refine drvL Try.func58 ?_
     simp only [go_sem,hrl,hlt,hxl]
     iterate 6 ((try (refine drvZ Try.func58 ?_;simp only [go_sem,hrl,hlt,hxl]));((with_reducible and_intros)<;>try exact sd);(try first | refine XK.p hcx ok50 ?_ | refine XK.gp hcx ok50 ?_))
     exact ret _ _ (by rw [subZ,if_neg htot])
   ·obtain rfl:i=l.length:=by omega
    have hn:¬ l.length<l.length:=by omega
    rw [List.take_length] at hI
    generalize hRW:Ex.cellsL l=rows at *
    simp only [List.take_length]
    refine drvL Try.func58 ?_
    simp only [go_sem,hrl,hn]
    iterate 3 ((try (refine drvZ Try.func58 ?_;simp only [go_sem,hrl,hn]));((with_reducible and_intros)<;>try exact sd))
    exact ret _ _ (by rw [subZ,if_pos (by omega)];omega)
  ·simp only [go_sem,TmOK,DM,DMs,CM,CMs,forall_eq,exists_eq_left,Mq,HpOK,LowOK]
   try simp
 ·have g:(left - (l.length:Int)<0)=True:=eq_true (by omega)
  refine dcZ Try.func58 ?_
  simp only [go_sem,hrl,g]
  iterate 4 ((try (refine drvZ Try.func58 ?_;simp only [go_sem,hrl,g]));((with_reducible and_intros)<;>try exact sd))
  exact ret _ _ (by rw [subZ,if_neg (by omega)])
theorem szStmtSOf (l : List (St1)) (hl : l.length ≤ mx) (hc : ∀ x ∈ l, ∀ left : Int, 0 ≤ left → left ≤ 1048576 → DC Try.prog 35 [.agg x.cells, DI .i64 left] [] (fun r h => r = DI .i64 (subZ left (szS x)) ∧ h = [])) (left : Int) (h0 : 0 ≤ left) (h1 : left ≤ 1048576) :
 DC Try.prog 15 [.c (.isl 11 (St1.cellsL l)),DI .i64 left] [] (fun r h=>r=DI .i64 (subZ left (szSL l))∧h=[]):=by
 have hmx:=mx_eq
 have ret:∀ (v:Int) (hp:Hp),v=subZ left (szSL l)→RetOb 0 (fun r h=>r=DI .i64 (subZ left (szSL l))∧h=[]) (DI .i64 v) hp:=fun v hp h=>RetOb.plain (d:=DI .i64 _) ⟨by rw [h],rfl⟩ rfl
 generalize hR:(fun (r:D) (h:List (Option (List C)))=>r=DI .i64 (subZ left (szSL l))∧h=[])=R at ret ⊢
 clear hR
 rw [szSL_eq,sum_split] at ret
 have hrl:(St1.cellsL l).length=l.length:=by simp [St1.cellsL_length]
 by_cases hq:(l.length:Int)≤left
 ·have g:(left - (l.length:Int)<0)=False:=eq_false (by omega)
  refine dcZ Try.func15 ?_
  simp only [go_sem,hrl,g]
  iterate 4 ((try (refine drvZ Try.func15 ?_;simp only [go_sem,hrl,g]));((with_reducible and_intros)<;>try exact sd))
  refine Go.loopQ (fun i:Nat=>[(0,.c (.isl 11 (St1.cellsL l))),(1,DI .i64 (left - l.length - ((l.take i).map (szS)).sum)),(5,DI .i64 i)]) (fun _=>[]) 1024 (fun i=>i≤l.length∧(l.length+((l.take i).map (szS)).sum:Int)≤left) (fun i=>l.length - i) ?_ 0 some [] _ ⟨by omega,by simpa using hq⟩ ?_
  ·rintro i ⟨hi,hI⟩ again
   rcases Nat.lt_or_ge i l.length with hlt | hge
   ·obtain ⟨x,hx⟩:∃ x,l[i]? = some x:=⟨l[i],by simp [hlt]⟩
    have hst:=sum_take (szS) hx
    have hcx:=hc x (List.mem_of_getElem? hx) (left - l.length - ((l.take i).map (szS)).sum) (by omega) (by omega)
    generalize hB:((l.take i).map (szS)).sum=B at *
    have hB2:=hst.1
    have hB3:=hst.2
    by_cases hq2:(szS x:Int)≤left - l.length - B
    ·rw [subZ,if_pos hq2] at hcx
     have g2:(left - (l.length:Int) - (B:Int) - (szS x:Int)<0)=False:=eq_false (by omega)
     have hnx:left - (l.length:Int) - (((l.take (i+1)).map (szS)).sum:Int)=left - l.length - B - szS x:=by rw [hB2];omega
     generalize szS x=z at *
     obtain ⟨k0,t0,⟨a1,b1,c1⟩,⟨a2,b2,c2⟩,c0,bd0,el0⟩:=x
     have hxl:(St1.cellsL l)[i]? = some [I64 k0,I64 t0,I64 a1,I64 b1,.isl 3 (Ex.cellsL c1),I64 a2,I64 b2,.isl 3 (Ex.cellsL c2),I64 c0,.isl 11 (St1.cellsL bd0),.isl 11 (St1.cellsL el0)]:=by rw [St1.cellsL_eq,List.getElem?_map,hx];rfl
     simp only [St1.cells,Ex.cells,List.cons_append,List.nil_append,List.append_assoc] at hcx
     generalize hRW:St1.cellsL l=rows at *
     refine drvL Try.func15 ?_
     simp only [go_sem,hrl,hlt,hxl]
     iterate 6 ((try (refine drvZ Try.func15 ?_;simp only [go_sem,hrl,hlt,hxl,g2]));((with_reducible and_intros)<;>try exact sd);(try first | refine XK.p hcx ok35 ?_ | refine XK.gp hcx ok35 ?_))
     refine again (i+1) some [] _ ⟨hlt,by omega⟩ (by omega) ?_
     simp only [go_sem,TmOK,DM,DMs,CM,CMs,forall_eq,exists_eq_left,Mq,HpOK,LowOK]
     simp only [List.map_take] at hnx
     simp [hnx]
    ·rw [subZ,if_neg hq2] at hcx
     have htot:¬ ((l.length+(l.map (szS)).sum:Nat):Int)≤left:=by omega
     generalize szS x=z at *
     obtain ⟨k0,t0,⟨a1,b1,c1⟩,⟨a2,b2,c2⟩,c0,bd0,el0⟩:=x
     have hxl:(St1.cellsL l)[i]? = some [I64 k0,I64 t0,I64 a1,I64 b1,.isl 3 (Ex.cellsL c1),I64 a2,I64 b2,.isl 3 (Ex.cellsL c2),I64 c0,.isl 11 (St1.cellsL bd0),.isl 11 (St1.cellsL el0)]:=by rw [St1.cellsL_eq,List.getElem?_map,hx];rfl
     simp only [St1.cells,Ex.cells,List.cons_append,List.nil_append,List.append_assoc] at hcx
     generalize hRW:St1.cellsL l=rows at *
     refine drvL Try.func15 ?_
     simp only [go_sem,hrl,hlt,hxl]
     iterate 6 ((try (refine drvZ Try.func15 ?_;simp only [go_sem,hrl,hlt,hxl]));((with_reducible and_intros)<;>try exact sd);(try first | refine XK.p hcx ok35 ?_ | refine XK.gp hcx ok35 ?_))
     exact ret _ _ (by rw [subZ,if_neg htot])
   ·obtain rfl:i=l.length:=by omega
    have hn:¬ l.length<l.length:=by omega
    rw [List.take_length] at hI
    generalize hRW:St1.cellsL l=rows at *
    simp only [List.take_length]
    refine drvL Try.func15 ?_
    simp only [go_sem,hrl,hn]
    iterate 3 ((try (refine drvZ Try.func15 ?_;simp only [go_sem,hrl,hn]));((with_reducible and_intros)<;>try exact sd))
    exact ret _ _ (by rw [subZ,if_pos (by omega)];omega)
  ·simp only [go_sem,TmOK,DM,DMs,CM,CMs,forall_eq,exists_eq_left,Mq,HpOK,LowOK]
   try simp
 ·have g:(left - (l.length:Int)<0)=True:=eq_true (by omega)
  refine dcZ Try.func15 ?_
  simp only [go_sem,hrl,g]
  iterate 4 ((try (refine drvZ Try.func15 ?_;simp only [go_sem,hrl,g]));((with_reducible and_intros)<;>try exact sd))
  exact ret _ _ (by rw [subZ,if_neg (by omega)])
theorem szExprOf (k v : Int) (ks : List Ex) (hc : ∀ left : Int, 0 ≤ left → left ≤ 1048576 → DC Try.prog 58 [.c (.isl 3 (Ex.cellsL ks)), DI .i64 left] [] (fun r h => r = DI .i64 (subZ left (szEL ks)) ∧ h = [])) (left : Int) (h0 : 0 ≤ left) (h1 : left ≤ 1048576) :
 DC Try.prog 50 [.agg [I64 k,I64 v,.isl 3 (Ex.cellsL ks)],DI .i64 left] [] (fun r h=>r=DI .i64 (subZ left (szEL ks))∧h=[]):=by
 have hmx:=mx_eq
 have ret:∀ (u:Int) (hp:Hp),u=subZ left (szEL ks)→RetOb 0 (fun r h=>r=DI .i64 (subZ left (szEL ks))∧h=[]) (DI .i64 u) hp:=fun u hp h=>RetOb.plain (d:=DI .i64 _) ⟨by rw [h],rfl⟩ rfl
 generalize hR:(fun (r:D) (h:List (Option (List C)))=>r=DI .i64 (subZ left (szEL ks))∧h=[])=R at ret ⊢
 clear hR
 have k0:=hc (left) (by omega) (by omega)
 by_cases q0:((szEL ks:Nat):Int)≤left
 ·rw [subZ,if_pos q0] at k0
  have g0:(left - ((szEL ks:Nat):Int)<0)=False:=eq_false (by omega)
  refine dcZ Try.func50 ?_
  simp only [go_sem,g0]
  iterate 7 ((try (refine drvZ Try.func50 ?_;simp only [go_sem,g0]));((with_reducible and_intros)<;>try exact sd);(try first | refine XK.p k0 ok58 ?_ | refine XK.gp k0 ok58 ?_))
  exact ret _ _ (by rw [subZ,if_pos (by omega)]<;>omega)
 ·rw [subZ,if_neg q0] at k0
  refine dcZ Try.func50 ?_
  simp only [go_sem]
  iterate 7 ((try (refine drvZ Try.func50 ?_;simp only [go_sem]));((with_reducible and_intros)<;>try exact sd);(try first | refine XK.p k0 ok58 ?_ | refine XK.gp k0 ok58 ?_))
  exact ret _ _ (by rw [subZ,if_neg (by omega)])
theorem szStmtOf (k t : Int) (ix v : Ex) (c : Int) (bd el : List St1) (hi : ∀ left : Int, 0 ≤ left → left ≤ 1048576 → DC Try.prog 50 [.agg ix.cells, DI .i64 left] [] (fun r h => r = DI .i64 (subZ left (szE ix)) ∧ h = [])) (hv : ∀ left : Int, 0 ≤ left → left ≤ 1048576 → DC Try.prog 50 [.agg v.cells, DI .i64 left] [] (fun r h => r = DI .i64 (subZ left (szE v)) ∧ h = [])) (hb : ∀ left : Int, 0 ≤ left → left ≤ 1048576 → DC Try.prog 15 [.c (.isl 11 (St1.cellsL bd)), DI .i64 left] [] (fun r h => r = DI .i64 (subZ left (szSL bd)) ∧ h = [])) (he : ∀ left : Int, 0 ≤ left → left ≤ 1048576 → DC Try.prog 15 [.c (.isl 11 (St1.cellsL el)), DI .i64 left] [] (fun r h => r = DI .i64 (subZ left (szSL el)) ∧ h = [])) (left : Int) (h0 : 0 ≤ left) (h1 : left ≤ 1048576) :
 DC Try.prog 35 [.agg (St1.cells (.mk k t ix v c bd el)),DI .i64 left] [] (fun r h=>r=DI .i64 (subZ left (szE ix+szE v+szSL bd+szSL el))∧h=[]):=by
 have hmx:=mx_eq
 have ret:∀ (u:Int) (hp:Hp),u=subZ left (szE ix+szE v+szSL bd+szSL el)→RetOb 0 (fun r h=>r=DI .i64 (subZ left (szE ix+szE v+szSL bd+szSL el))∧h=[]) (DI .i64 u) hp:=fun u hp h=>RetOb.plain (d:=DI .i64 _) ⟨by rw [h],rfl⟩ rfl
 generalize hR:(fun (r:D) (h:List (Option (List C)))=>r=DI .i64 (subZ left (szE ix+szE v+szSL bd+szSL el))∧h=[])=R at ret ⊢
 clear hR
 generalize szE ix=z1 at *
 generalize szE v=z2 at *
 generalize szSL bd=z3 at *
 generalize szSL el=z4 at *
 obtain ⟨a1,b1,c1⟩:=ix
 obtain ⟨a2,b2,c2⟩:=v
 simp only [St1.cells,Ex.cells,List.cons_append,List.nil_append,List.append_assoc] at *
 have k0:=hi (left) (by omega) (by omega)
 by_cases q0:((z1:Nat):Int)≤left
 ·rw [subZ,if_pos q0] at k0
  have g0:(left - ((z1:Nat):Int)<0)=False:=eq_false (by omega)
  have k1:=hv (left - ((z1:Nat):Int)) (by omega) (by omega)
  by_cases q1:((z2:Nat):Int)≤left - ((z1:Nat):Int)
  ·rw [subZ,if_pos q1] at k1
   have g1:(left - ((z1:Nat):Int) - ((z2:Nat):Int)<0)=False:=eq_false (by omega)
   have k2:=hb (left - ((z1:Nat):Int) - ((z2:Nat):Int)) (by omega) (by omega)
   by_cases q2:((z3:Nat):Int)≤left - ((z1:Nat):Int) - ((z2:Nat):Int)
   ·rw [subZ,if_pos q2] at k2
    have g2:(left - ((z1:Nat):Int) - ((z2:Nat):Int) - ((z3:Nat):Int)<0)=False:=eq_false (by omega)
    have k3:=he (left - ((z1:Nat):Int) - ((z2:Nat):Int) - ((z3:Nat):Int)) (by omega) (by omega)
    by_cases q3:((z4:Nat):Int)≤left - ((z1:Nat):Int) - ((z2:Nat):Int) - ((z3:Nat):Int)
    ·rw [subZ,if_pos q3] at k3
     have g3:(left - ((z1:Nat):Int) - ((z2:Nat):Int) - ((z3:Nat):Int) - ((z4:Nat):Int)<0)=False:=eq_false (by omega)
     refine dcZ Try.func35 ?_
     simp only [go_sem,g0,g1,g2,g3]
     iterate 16 ((try (refine drvZ Try.func35 ?_;simp only [go_sem,g0,g1,g2,g3]));((with_reducible and_intros)<;>try exact sd);(try first | refine XK.p k0 ok50 ?_ | refine XK.gp k0 ok50 ?_ | refine XK.p k1 ok50 ?_ | refine XK.gp k1 ok50 ?_ | refine XK.p k2 ok15 ?_ | refine XK.gp k2 ok15 ?_ | refine XK.p k3 ok15 ?_ | refine XK.gp k3 ok15 ?_))
     exact ret _ _ (by rw [subZ,if_pos (by omega)]<;>omega)
    ·rw [subZ,if_neg q3] at k3
     refine dcZ Try.func35 ?_
     simp only [go_sem,g0,g1,g2]
     iterate 16 ((try (refine drvZ Try.func35 ?_;simp only [go_sem,g0,g1,g2]));((with_reducible and_intros)<;>try exact sd);(try first | refine XK.p k0 ok50 ?_ | refine XK.gp k0 ok50 ?_ | refine XK.p k1 ok50 ?_ | refine XK.gp k1 ok50 ?_ | refine XK.p k2 ok15 ?_ | refine XK.gp k2 ok15 ?_ | refine XK.p k3 ok15 ?_ | refine XK.gp k3 ok15 ?_))
     exact ret _ _ (by rw [subZ,if_neg (by omega)])
   ·rw [subZ,if_neg q2] at k2
    refine dcZ Try.func35 ?_
    simp only [go_sem,g0,g1]
    iterate 16 ((try (refine drvZ Try.func35 ?_;simp only [go_sem,g0,g1]));((with_reducible and_intros)<;>try exact sd);(try first | refine XK.p k0 ok50 ?_ | refine XK.gp k0 ok50 ?_ | refine XK.p k1 ok50 ?_ | refine XK.gp k1 ok50 ?_ | refine XK.p k2 ok15 ?_ | refine XK.gp k2 ok15 ?_))
    exact ret _ _ (by rw [subZ,if_neg (by omega)])
  ·rw [subZ,if_neg q1] at k1
   refine dcZ Try.func35 ?_
   simp only [go_sem,g0]
   iterate 16 ((try (refine drvZ Try.func35 ?_;simp only [go_sem,g0]));((with_reducible and_intros)<;>try exact sd);(try first | refine XK.p k0 ok50 ?_ | refine XK.gp k0 ok50 ?_ | refine XK.p k1 ok50 ?_ | refine XK.gp k1 ok50 ?_))
   exact ret _ _ (by rw [subZ,if_neg (by omega)])
 ·rw [subZ,if_neg q0] at k0
  refine dcZ Try.func35 ?_
  simp only [go_sem]
  iterate 16 ((try (refine drvZ Try.func35 ?_;simp only [go_sem]));((with_reducible and_intros)<;>try exact sd);(try first | refine XK.p k0 ok50 ?_ | refine XK.gp k0 ok50 ?_))
  exact ret _ _ (by rw [subZ,if_neg (by omega)])
theorem szProgramOf (p : Pg) (hv : ∀ left : Int, 0 ≤ left → left ≤ 1048576 → DC Try.prog 14 [.c (isI p.vars), DI .i64 left] [] (fun r h => r = DI .i64 (subZ left (p.vars.length)) ∧ h = [])) (ha : ∀ left : Int, 0 ≤ left → left ≤ 1048576 → DC Try.prog 14 [.c (isI p.arrays), DI .i64 left] [] (fun r h => r = DI .i64 (subZ left (p.arrays.length)) ∧ h = [])) (hb : ∀ left : Int, 0 ≤ left → left ≤ 1048576 → DC Try.prog 15 [.c (.isl 11 (St1.cellsL p.body)), DI .i64 left] [] (fun r h => r = DI .i64 (subZ left (szSL p.body)) ∧ h = [])) (left : Int) (h0 : 0 ≤ left) (h1 : left ≤ 1048576) :
 DC Try.prog 4 [.agg p.cells,DI .i64 left] [] (fun r h=>r=DI .i64 (subZ left (p.vars.length+p.arrays.length+szSL p.body))∧h=[]):=by
 have hmx:=mx_eq
 have ret:∀ (u:Int) (hp:Hp),u=subZ left (p.vars.length+p.arrays.length+szSL p.body)→RetOb 0 (fun r h=>r=DI .i64 (subZ left (p.vars.length+p.arrays.length+szSL p.body))∧h=[]) (DI .i64 u) hp:=fun u hp h=>RetOb.plain (d:=DI .i64 _) ⟨by rw [h],rfl⟩ rfl
 generalize hR:(fun (r:D) (h:List (Option (List C)))=>r=DI .i64 (subZ left (p.vars.length+p.arrays.length+szSL p.body))∧h=[])=R at ret ⊢
 clear hR
 obtain ⟨vs,ar,bd⟩:=p
 simp only [Pg.cells] at *
 generalize hz1:vs.length=z1 at *
 generalize hz2:ar.length=z2 at *
 generalize szSL bd=z3 at *
 have k0:=hv (left) (by omega) (by omega)
 by_cases q0:((z1:Nat):Int)≤left
 ·rw [subZ,if_pos q0] at k0
  have g0:(left - ((z1:Nat):Int)<0)=False:=eq_false (by omega)
  have k1:=ha (left - ((z1:Nat):Int)) (by omega) (by omega)
  by_cases q1:((z2:Nat):Int)≤left - ((z1:Nat):Int)
  ·rw [subZ,if_pos q1] at k1
   have g1:(left - ((z1:Nat):Int) - ((z2:Nat):Int)<0)=False:=eq_false (by omega)
   have k2:=hb (left - ((z1:Nat):Int) - ((z2:Nat):Int)) (by omega) (by omega)
   by_cases q2:((z3:Nat):Int)≤left - ((z1:Nat):Int) - ((z2:Nat):Int)
   ·rw [subZ,if_pos q2] at k2
    have g2:(left - ((z1:Nat):Int) - ((z2:Nat):Int) - ((z3:Nat):Int)<0)=False:=eq_false (by omega)
    refine dcZ Try.func4 ?_
    simp only [go_sem,g0,g1,g2]
    iterate 13 ((try (refine drvZ Try.func4 ?_;simp only [go_sem,g0,g1,g2]));((with_reducible and_intros)<;>try exact sd);(try first | refine XK.p k0 ok14 ?_ | refine XK.gp k0 ok14 ?_ | refine XK.p k1 ok14 ?_ | refine XK.gp k1 ok14 ?_ | refine XK.p k2 ok15 ?_ | refine XK.gp k2 ok15 ?_))
    exact ret _ _ (by rw [subZ,if_pos (by omega)]<;>omega)
   ·rw [subZ,if_neg q2] at k2
    refine dcZ Try.func4 ?_
    simp only [go_sem,g0,g1]
    iterate 13 ((try (refine drvZ Try.func4 ?_;simp only [go_sem,g0,g1]));((with_reducible and_intros)<;>try exact sd);(try first | refine XK.p k0 ok14 ?_ | refine XK.gp k0 ok14 ?_ | refine XK.p k1 ok14 ?_ | refine XK.gp k1 ok14 ?_ | refine XK.p k2 ok15 ?_ | refine XK.gp k2 ok15 ?_))
    exact ret _ _ (by rw [subZ,if_neg (by omega)])
  ·rw [subZ,if_neg q1] at k1
   refine dcZ Try.func4 ?_
   simp only [go_sem,g0]
   iterate 13 ((try (refine drvZ Try.func4 ?_;simp only [go_sem,g0]));((with_reducible and_intros)<;>try exact sd);(try first | refine XK.p k0 ok14 ?_ | refine XK.gp k0 ok14 ?_ | refine XK.p k1 ok14 ?_ | refine XK.gp k1 ok14 ?_))
   exact ret _ _ (by rw [subZ,if_neg (by omega)])
 ·rw [subZ,if_neg q0] at k0
  refine dcZ Try.func4 ?_
  simp only [go_sem]
  iterate 13 ((try (refine drvZ Try.func4 ?_;simp only [go_sem]));((with_reducible and_intros)<;>try exact sd);(try first | refine XK.p k0 ok14 ?_ | refine XK.gp k0 ok14 ?_))
  exact ret _ _ (by rw [subZ,if_neg (by omega)])
theorem szExpr_c : ∀ (n : Nat) (e : Ex), SizeOf.sizeOf e ≤ n → ExB e → ∀ left : Int, 0 ≤ left → left ≤ 1048576 → DC Try.prog 50 [.agg e.cells, DI .i64 left] [] (fun r h => r = DI .i64 (subZ left (szE e)) ∧ h = [])
 | 0,.mk k v ks,h,_=>by simp at h
 | n+1,.mk k v ks,h,hb=>fun left h0 h1=>by
  cases hb with
  | mk _ _ _ hl hk =>
   rw [show szE (.mk k v ks)=szEL ks by simp only [szE]]
   rw [show Ex.cells (.mk k v ks)=[I64 k,I64 v,.isl 3 (Ex.cellsL ks)] by simp only [Ex.cells]]
   exact szExprOf k v ks (szExprSOf ks hl fun x hx=>szExpr_c n x (by have:=List.sizeOf_lt_of_mem hx;simp only [Ex.mk.sizeOf_spec] at h;omega) (hk x hx)) left h0 h1
theorem szStmt_c : ∀ (n : Nat) (s : St1), SizeOf.sizeOf s ≤ n → StB s → ∀ left : Int, 0 ≤ left → left ≤ 1048576 → DC Try.prog 35 [.agg s.cells, DI .i64 left] [] (fun r h => r = DI .i64 (subZ left (szS s)) ∧ h = [])
 | 0,.mk k t ix v c b e,h,_=>by simp at h
 | n+1,.mk k t ix v c b e,h,hb=>fun left h0 h1=>by
  cases hb with
  | mk _ _ _ _ _ _ _ g1 g2 g3 g4 g5 g6 =>
   simp only [St1.mk.sizeOf_spec] at h
   rw [show szS (.mk k t ix v c b e)=szE ix+szE v+szSL b+szSL e by simp only [szS]]
   exact szStmtOf k t ix v c b e (szExpr_c _ ix (Nat.le_refl _) g1) (szExpr_c _ v (Nat.le_refl _) g2) (szStmtSOf b g3 fun x hx => szStmt_c n x (by have := List.sizeOf_lt_of_mem hx; omega) (g5 x hx))
    (szStmtSOf e g4 fun x hx=>szStmt_c n x (by have:=List.sizeOf_lt_of_mem hx;omega) (g6 x hx)) left h0 h1
theorem szProgram_c (p:Pg) (hb:PgB p) (left:Int) (h0:0≤left) (h1:left≤1048576):DC Try.prog 4 [.agg p.cells,DI .i64 left] [] (fun r h=>r=DI .i64 (subZ left (szP p))∧h=[]) :=
 szProgramOf p (fun l a b=>szIntS p.vars hb.nv l a b) (fun l a b=>szIntS p.arrays hb.na l a b) (szStmtSOf p.body hb.nb fun x hx=>szStmt_c _ x (Nat.le_refl _) (hb.st x hx)) left h0 h1
theorem eqIntST (l:List (Int)) (hl:l.length≤mx)  : DC Try.prog 29 [.c (.isl 1 ((l.map fun n=>[I64 n]))),.c (.isl 1 ((l.map fun n=>[I64 n])))] [] (fun r h=>r=DB true∧h=[]):=by
 have hmx:=mx_eq
 have ret:∀ hp:Hp,RetOb 0 (fun r h=>r=DB true∧h=[]) (DB true) hp:=fun hp=>RetOb.plain (d:=DB true) ⟨rfl,rfl⟩ rfl
 generalize hR:(fun (r:D) (h:List (Option (List C)))=>r=DB true∧h=[])=R at ret ⊢
 clear hR
 have hrl:((l.map fun n=>[I64 n])).length=l.length:=by simp [List.length_map]
 have hrx:∀ (i:Nat) x,l[i]? = some x→True:=fun _ _ _=>trivial
 refine dcZ Try.func29 ?_
 simp only [go_sem,hrl,bne_self_eq_false]
 iterate 4 ((try (refine drvZ Try.func29 ?_;simp only [go_sem,hrl,bne_self_eq_false]));((with_reducible and_intros)<;>try exact sd))
 refine Go.loopQ (fun i:Nat=>[(0,.c (.isl 1 ((l.map fun n=>[I64 n])))),(1,.c (.isl 1 ((l.map fun n=>[I64 n])))),(5,DI .i64 i)]) (fun _=>[]) 1024 (fun i=>i≤l.length) (fun i=>l.length - i) ?_ 0 some [] _ (by omega) ?_
 ·intro i hi again
  rcases Nat.lt_or_ge i l.length with hlt | hge
  ·obtain ⟨x,hx⟩:∃ x,l[i]? = some x:=⟨l[i],by simp [hlt]⟩
   have hxl:((l.map fun n=>[I64 n]))[i]? = some [I64 x]:=by rw [List.getElem?_map,hx];rfl
   generalize hRW:(l.map fun n=>[I64 n])=rows at *
   refine drvL Try.func29 ?_
   simp only [go_sem,hrl,hlt,hxl,bne_self_eq_false]
   iterate 6 ((try (refine drvZ Try.func29 ?_;simp only [go_sem,hrl,hlt,hxl,bne_self_eq_false]));((with_reducible and_intros)<;>try exact sd))
   refine again (i+1) some [] _ hlt (by omega) ?_
   simp only [go_sem,TmOK,DM,DMs,CM,CMs,forall_eq,exists_eq_left,Mq,HpOK,LowOK]
   try simp
  ·have hn:¬ i<l.length:=by omega
   generalize hRW:(l.map fun n=>[I64 n])=rows at *
   refine drvL Try.func29 ?_
   simp only [go_sem,hrl,hn]
   iterate 3 ((try (refine drvZ Try.func29 ?_;simp only [go_sem,hrl,hn]));((with_reducible and_intros)<;>try exact sd))
   exact ret _
 ·simp only [go_sem,TmOK,DM,DMs,CM,CMs,forall_eq,exists_eq_left,Mq,HpOK,LowOK]
  try simp
theorem eqExprSOf (l:List (Ex)) (hl:l.length≤mx) (hc:∀ x ∈ l,DC Try.prog 57 [.agg x.cells,.agg x.cells] [] (fun r h=>r=DB true∧h=[])):DC Try.prog 69 [.c (.isl 3 (Ex.cellsL l)),.c (.isl 3 (Ex.cellsL l))] [] (fun r h=>r=DB true∧h=[]):=by
 have hmx:=mx_eq
 have ret:∀ hp:Hp,RetOb 0 (fun r h=>r=DB true∧h=[]) (DB true) hp:=fun hp=>RetOb.plain (d:=DB true) ⟨rfl,rfl⟩ rfl
 generalize hR:(fun (r:D) (h:List (Option (List C)))=>r=DB true∧h=[])=R at ret ⊢
 clear hR
 have hrl:(Ex.cellsL l).length=l.length:=by simp [Ex.cellsL_length]
 have hrx:∀ (i:Nat) x,l[i]? = some x→True:=fun _ _ _=>trivial
 refine dcZ Try.func69 ?_
 simp only [go_sem,hrl,bne_self_eq_false]
 iterate 4 ((try (refine drvZ Try.func69 ?_;simp only [go_sem,hrl,bne_self_eq_false]));((with_reducible and_intros)<;>try exact sd))
 refine Go.loopQ (fun i:Nat=>[(0,.c (.isl 3 (Ex.cellsL l))),(1,.c (.isl 3 (Ex.cellsL l))),(5,DI .i64 i)]) (fun _=>[]) 1024 (fun i=>i≤l.length) (fun i=>l.length - i) ?_ 0 some [] _ (by omega) ?_
 ·intro i hi again
  rcases Nat.lt_or_ge i l.length with hlt | hge
  ·obtain ⟨x,hx⟩:∃ x,l[i]? = some x:=⟨l[i],by simp [hlt]⟩
   have hcx:=hc x (List.mem_of_getElem? hx)
   obtain ⟨k0,v0,ks0⟩:=x
   have hxl:(Ex.cellsL l)[i]? = some [I64 k0,I64 v0,.isl 3 (Ex.cellsL ks0)]:=by rw [Ex.cellsL_eq,List.getElem?_map,hx];rfl
   simp only [Ex.cells,St1.cells,List.cons_append,List.nil_append,List.append_assoc] at hcx
   generalize hRW:Ex.cellsL l=rows at *
   refine drvL Try.func69 ?_
   simp only [go_sem,hrl,hlt,hxl,bne_self_eq_false]
   iterate 6 ((try (refine drvZ Try.func69 ?_;simp only [go_sem,hrl,hlt,hxl,bne_self_eq_false]));((with_reducible and_intros)<;>try exact sd);(try first | refine XK.p hcx ok57 ?_ | refine XK.gp hcx ok57 ?_))
   refine again (i+1) some [] _ hlt (by omega) ?_
   simp only [go_sem,TmOK,DM,DMs,CM,CMs,forall_eq,exists_eq_left,Mq,HpOK,LowOK]
   try simp
  ·have hn:¬ i<l.length:=by omega
   generalize hRW:Ex.cellsL l=rows at *
   refine drvL Try.func69 ?_
   simp only [go_sem,hrl,hn]
   iterate 3 ((try (refine drvZ Try.func69 ?_;simp only [go_sem,hrl,hn]));((with_reducible and_intros)<;>try exact sd))
   exact ret _
 ·simp only [go_sem,TmOK,DM,DMs,CM,CMs,forall_eq,exists_eq_left,Mq,HpOK,LowOK]
  try simp
theorem eqStmtSOf (l:List (St1)) (hl:l.length≤mx) (hc:∀ x ∈ l,DC Try.prog 47 [.agg x.cells,.agg x.cells] [] (fun r h=>r=DB true∧h=[])):DC Try.prog 30 [.c (.isl 11 (St1.cellsL l)),.c (.isl 11 (St1.cellsL l))] [] (fun r h=>r=DB true∧h=[]):=by
 have hmx:=mx_eq
 have ret:∀ hp:Hp,RetOb 0 (fun r h=>r=DB true∧h=[]) (DB true) hp:=fun hp=>RetOb.plain (d:=DB true) ⟨rfl,rfl⟩ rfl
 generalize hR:(fun (r:D) (h:List (Option (List C)))=>r=DB true∧h=[])=R at ret ⊢
 clear hR
 have hrl:(St1.cellsL l).length=l.length:=by simp [St1.cellsL_length]
 have hrx:∀ (i:Nat) x,l[i]? = some x→True:=fun _ _ _=>trivial
 refine dcZ Try.func30 ?_
 simp only [go_sem,hrl,bne_self_eq_false]
 iterate 4 ((try (refine drvZ Try.func30 ?_;simp only [go_sem,hrl,bne_self_eq_false]));((with_reducible and_intros)<;>try exact sd))
 refine Go.loopQ (fun i:Nat=>[(0,.c (.isl 11 (St1.cellsL l))),(1,.c (.isl 11 (St1.cellsL l))),(5,DI .i64 i)]) (fun _=>[]) 1024 (fun i=>i≤l.length) (fun i=>l.length - i) ?_ 0 some [] _ (by omega) ?_
 ·intro i hi again
  rcases Nat.lt_or_ge i l.length with hlt | hge
  ·obtain ⟨x,hx⟩:∃ x,l[i]? = some x:=⟨l[i],by simp [hlt]⟩
   have hcx:=hc x (List.mem_of_getElem? hx)
   obtain ⟨k0,t0,⟨a1,b1,c1⟩,⟨a2,b2,c2⟩,c0,bd0,el0⟩:=x
   have hxl:(St1.cellsL l)[i]? = some [I64 k0,I64 t0,I64 a1,I64 b1,.isl 3 (Ex.cellsL c1),I64 a2,I64 b2,.isl 3 (Ex.cellsL c2),I64 c0,.isl 11 (St1.cellsL bd0),.isl 11 (St1.cellsL el0)]:=by rw [St1.cellsL_eq,List.getElem?_map,hx];rfl
   simp only [Ex.cells,St1.cells,List.cons_append,List.nil_append,List.append_assoc] at hcx
   generalize hRW:St1.cellsL l=rows at *
   refine drvL Try.func30 ?_
   simp only [go_sem,hrl,hlt,hxl,bne_self_eq_false]
   iterate 6 ((try (refine drvZ Try.func30 ?_;simp only [go_sem,hrl,hlt,hxl,bne_self_eq_false]));((with_reducible and_intros)<;>try exact sd);(try first | refine XK.p hcx ok47 ?_ | refine XK.gp hcx ok47 ?_))
   refine again (i+1) some [] _ hlt (by omega) ?_
   simp only [go_sem,TmOK,DM,DMs,CM,CMs,forall_eq,exists_eq_left,Mq,HpOK,LowOK]
   try simp
  ·have hn:¬ i<l.length:=by omega
   generalize hRW:St1.cellsL l=rows at *
   refine drvL Try.func30 ?_
   simp only [go_sem,hrl,hn]
   iterate 3 ((try (refine drvZ Try.func30 ?_;simp only [go_sem,hrl,hn]));((with_reducible and_intros)<;>try exact sd))
   exact ret _
 ·simp only [go_sem,TmOK,DM,DMs,CM,CMs,forall_eq,exists_eq_left,Mq,HpOK,LowOK]
  try simp
theorem eqExprOf (k v:Int) (ks:List Ex) (hc:DC Try.prog 69 [.c (.isl 3 (Ex.cellsL ks)),.c (.isl 3 (Ex.cellsL ks))] [] (fun r h=>r=DB true∧h=[])):DC Try.prog 57 [.agg [I64 k,I64 v,.isl 3 (Ex.cellsL ks)],.agg [I64 k,I64 v,.isl 3 (Ex.cellsL ks)]] [] (fun r h=>r=DB true∧h=[]):=by
 have hmx:=mx_eq
 have ret:∀ hp:Hp,RetOb 0 (fun r h=>r=DB true∧h=[]) (DB true) hp:=fun hp=>RetOb.plain (d:=DB true) ⟨rfl,rfl⟩ rfl
 generalize hR:(fun (r:D) (h:List (Option (List C)))=>r=DB true∧h=[])=R at ret ⊢
 clear hR
 refine dcZ Try.func57 ?_
 simp only [go_sem,bne_self_eq_false]
 iterate 10 ((try (refine drvZ Try.func57 ?_;simp only [go_sem,bne_self_eq_false]));((with_reducible and_intros)<;>try exact sd);(try first | refine XK.p hc ok69 ?_ | refine XK.gp hc ok69 ?_))
 exact ret _
theorem eqStmtOf (k t:Int) (ix v:Ex) (c:Int) (bd el:List St1) (hi:DC Try.prog 57 [.agg ix.cells,.agg ix.cells] [] (fun r h=>r=DB true∧h=[])) (hv:DC Try.prog 57 [.agg v.cells,.agg v.cells] [] (fun r h=>r=DB true∧h=[])) (hb:DC Try.prog 30 [.c (.isl 11 (St1.cellsL bd)),.c (.isl 11 (St1.cellsL bd))] [] (fun r h=>r=DB true∧h=[])) (he:DC Try.prog 30 [.c (.isl 11 (St1.cellsL el)),.c (.isl 11 (St1.cellsL el))] [] (fun r h=>r=DB true∧h=[])):DC Try.prog 47 [.agg (St1.cells (.mk k t ix v c bd el)),.agg (St1.cells (.mk k t ix v c bd el))] [] (fun r h=>r=DB true∧h=[]):=by
 have hmx:=mx_eq
 have ret:∀ hp:Hp,RetOb 0 (fun r h=>r=DB true∧h=[]) (DB true) hp:=fun hp=>RetOb.plain (d:=DB true) ⟨rfl,rfl⟩ rfl
 generalize hR:(fun (r:D) (h:List (Option (List C)))=>r=DB true∧h=[])=R at ret ⊢
 clear hR
 obtain ⟨a1,b1,c1⟩:=ix
 obtain ⟨a2,b2,c2⟩:=v
 simp only [St1.cells,Ex.cells,List.cons_append,List.nil_append,List.append_assoc] at *
 refine dcZ Try.func47 ?_
 simp only [go_sem,bne_self_eq_false]
 iterate 24 ((try (refine drvZ Try.func47 ?_;simp only [go_sem,bne_self_eq_false]));((with_reducible and_intros)<;>try exact sd);(try first | refine XK.p hi ok57 ?_ | refine XK.gp hi ok57 ?_ | refine XK.p hv ok57 ?_ | refine XK.gp hv ok57 ?_ | refine XK.p hb ok30 ?_ | refine XK.gp hb ok30 ?_ | refine XK.p he ok30 ?_ | refine XK.gp he ok30 ?_))
 exact ret _
theorem eqProgramOf (p:Pg) (hv:DC Try.prog 29 [.c (isI p.vars),.c (isI p.vars)] [] (fun r h=>r=DB true∧h=[])) (ha:DC Try.prog 29 [.c (isI p.arrays),.c (isI p.arrays)] [] (fun r h=>r=DB true∧h=[])) (hb:DC Try.prog 30 [.c (.isl 11 (St1.cellsL p.body)),.c (.isl 11 (St1.cellsL p.body))] [] (fun r h=>r=DB true∧h=[])):DC Try.prog 9 [.agg p.cells,.agg p.cells] [] (fun r h=>r=DB true∧h=[]):=by
 have hmx:=mx_eq
 have ret:∀ hp:Hp,RetOb 0 (fun r h=>r=DB true∧h=[]) (DB true) hp:=fun hp=>RetOb.plain (d:=DB true) ⟨rfl,rfl⟩ rfl
 generalize hR:(fun (r:D) (h:List (Option (List C)))=>r=DB true∧h=[])=R at ret ⊢
 clear hR
 obtain ⟨vs,ar,bd⟩:=p
 simp only [Pg.cells] at *
 refine dcZ Try.func9 ?_
 simp only [go_sem,bne_self_eq_false]
 iterate 14 ((try (refine drvZ Try.func9 ?_;simp only [go_sem,bne_self_eq_false]));((with_reducible and_intros)<;>try exact sd);(try first | refine XK.p hv ok29 ?_ | refine XK.gp hv ok29 ?_ | refine XK.p ha ok29 ?_ | refine XK.gp ha ok29 ?_ | refine XK.p hb ok30 ?_ | refine XK.gp hb ok30 ?_))
 exact ret _
theorem eqExpr_c : ∀ (n : Nat) (e : Ex), SizeOf.sizeOf e ≤ n → ExB e → DC Try.prog 57 [.agg e.cells, .agg e.cells] [] (fun r h => r = DB true ∧ h = [])
 | 0,.mk k v ks,h,_=>by simp at h
 | n+1,.mk k v ks,h,hb=>by
  cases hb with
  | mk _ _ _ hl hk =>
   rw [show Ex.cells (.mk k v ks)=[I64 k,I64 v,.isl 3 (Ex.cellsL ks)] by simp only [Ex.cells]]
   exact eqExprOf k v ks (eqExprSOf ks hl fun x hx=>eqExpr_c n x (by have:=List.sizeOf_lt_of_mem hx;simp only [Ex.mk.sizeOf_spec] at h;omega) (hk x hx))
theorem eqStmt_c : ∀ (n : Nat) (s : St1), SizeOf.sizeOf s ≤ n → StB s → DC Try.prog 47 [.agg s.cells, .agg s.cells] [] (fun r h => r = DB true ∧ h = [])
 | 0,.mk k t ix v c b e,h,_=>by simp at h
 | n+1,.mk k t ix v c b e,h,hb=>by
  cases hb with
  | mk _ _ _ _ _ _ _ g1 g2 g3 g4 g5 g6 =>
   simp only [St1.mk.sizeOf_spec] at h
   exact eqStmtOf k t ix v c b e (eqExpr_c _ ix (Nat.le_refl _) g1) (eqExpr_c _ v (Nat.le_refl _) g2) (eqStmtSOf b g3 fun x hx => eqStmt_c n x (by have := List.sizeOf_lt_of_mem hx; omega) (g5 x hx))
    (eqStmtSOf e g4 fun x hx=>eqStmt_c n x (by have:=List.sizeOf_lt_of_mem hx;omega) (g6 x hx))
theorem eqProgram_c (p:Pg) (hb:PgB p):DC Try.prog 9 [.agg p.cells,.agg p.cells] [] (fun r h=>r=DB true∧h=[]) :=
 eqProgramOf p (eqIntST p.vars hb.nv) (eqIntST p.arrays hb.na) (eqStmtSOf p.body hb.nb fun x hx=>eqStmt_c _ x (Nat.le_refl _) (hb.st x hx))
structure PgN (p : Pg) : Prop where
 nv:p.vars.length≤1048576
 na:p.arrays.length≤1048576
 nb:p.body.length≤1048576
 st:∀ s ∈ p.body,StN s
theorem pgN_of {p:Pg} (h:szP p≤1048576):PgN p:=by
 unfold szP at h
 rw [szSL_eq] at h
 have h1:=sum_split szS p.body
 exact ⟨by omega,by omega,by omega,fun s hs=>stN_of _ s (Nat.le_refl _) (by have:=mem_sum szS hs;omega)⟩
theorem tsize_le : ∀ (d : Nat) (s : St1), tsize d s ≤ 1 + szS s
 | 0,s=>by simp [tsize]
 | d+1,.mk k t ix v c b e=>by
  have h:∀ l:List St1,(l.map (tsize d)).sum≤szSL l:=fun l=>by
   induction l with
   | nil=>simp [szSL]
   | cons a r ih =>
    have:=tsize_le d a
    simp only [List.map_cons,List.sum_cons,szSL];omega
  have h1:=h b
  have h2:=h e
  simp only [tsize,szS];omega
theorem lsize_le (d : Nat) : ∀ l : List St1, lsize d l ≤ szSL l
 | []=>by simp [lsize,szSL]
 | a :: r=>by
  have h1:=tsize_le d a
  have h2:=lsize_le d r
  unfold lsize at h2 ⊢
  simp only [List.map_cons,List.sum_cons,szSL];omega
theorem celX1:Try.prog.cellsOf 3=1:=by kernel_rfl
theorem celX3:Try.prog.cellsOf 59=3:=by kernel_rfl
theorem celX4:Try.prog.cellsOf 61=11:=by kernel_rfl
def TXP (t:TypeId):Prop:=t ∈ ([3,22,59,57,61,23,25]:List TypeId)
theorem clXP:Cl Try.prog TXP:=⟨fun t ht=>by
 simp only [TXP,List.mem_cons,List.not_mem_nil,or_false] at ht
 rcases ht with rfl | rfl | rfl | rfl | rfl | rfl | rfl
 ·exact .inl ⟨_,Try.underlying3⟩
 ·exact .inr (.inr (.inl ⟨_,Try.underlying22,by simp [TXP],of_decide_eq_true (by kernel_rfl),of_decide_eq_true (by kernel_rfl)⟩))
 ·exact .inr (.inr (.inr ⟨_,Try.underlying59,by kernel_rfl,by simp [TXP]⟩))
 ·exact .inr (.inr (.inl ⟨_,Try.underlying57,by simp [TXP],of_decide_eq_true (by kernel_rfl),of_decide_eq_true (by kernel_rfl)⟩))
 ·exact .inr (.inr (.inr ⟨_,Try.underlying61,by kernel_rfl,by simp [TXP]⟩))
 ·exact .inr (.inr (.inl ⟨_,Try.underlying23,by simp [TXP],of_decide_eq_true (by kernel_rfl),of_decide_eq_true (by kernel_rfl)⟩))
 ·exact .inr (.inr (.inr ⟨_,Try.underlying25,by kernel_rfl,by simp [TXP]⟩))⟩
theorem sh_int {ks:List C} (h:Sh Try.prog 3 ks):∃ n:Int,ks=[I64 n]∧True:=by
 obtain ⟨n,rfl,_⟩:=h.int_of Try.underlying3
 exact ⟨n,rfl,trivial⟩
theorem sh_ints {ks:List C} (h:Sh Try.prog 22 ks):∃ l:List Int,ks=[isI l]∧l.length≤mx:=by
 obtain ⟨l,rfl,hl,_⟩:=h.rows_of (f:=fun n:Int=>[I64 n]) (Q:=fun _=>True) Try.underlying22 fun r hr=>sh_int hr
 exact ⟨l,by rw [celX1];rfl,hl⟩
theorem sh_ex {t:TypeId} {ks:List C} (h:Sh Try.prog t ks):(t=59→∃ e:Ex,ks=e.cells∧ExB e)∧(t=57→∃ es:List Ex,ks=[.isl 3 (Ex.cellsL es)]∧es.length≤mx∧∀ e ∈ es,ExB e):=by
 induction h with
 | int hu hn=>exact ⟨fun e=>(by rw [e,Try.underlying59] at hu;cases hu),fun e=>(by rw [e,Try.underlying57] at hu;cases hu)⟩
 | bool hu=>exact ⟨fun e=>(by rw [e,Try.underlying59] at hu;cases hu),fun e=>(by rw [e,Try.underlying57] at hu;cases hu)⟩
 | sl hu hm hx ih =>
  refine ⟨fun e=>(by rw [e,Try.underlying59] at hu;cases hu),fun e=>?_⟩
  rw [e,Try.underlying57] at hu
  cases hu
  obtain ⟨es,rfl,hb⟩:=list_of (f:=Ex.cells) (Q:=ExB) _ fun r hr=>(ih r hr).1 rfl
  exact ⟨es,by rw [celX3,Ex.cellsL_eq],by simpa using hm,hb⟩
 | st hu hl hx ih =>
  refine ⟨fun e=>?_,fun e=>(by rw [e,Try.underlying57] at hu;cases hu)⟩
  rw [e,Try.underlying59] at hu
  cases hu
  rename_i kss
  match kss,hl,hx,ih with
  | [a,b,c],_,hx,ih =>
   obtain ⟨n,rfl,_⟩:=sh_int (hx 0 _ a rfl rfl)
   obtain ⟨v,rfl,_⟩:=sh_int (hx 1 _ b rfl rfl)
   obtain ⟨es,rfl,h1,h2⟩:=(ih 2 _ c rfl rfl).2 rfl
   exact ⟨.mk n v es,by simp [Ex.cells],.mk _ _ _ h1 h2⟩
theorem sh_st {t:TypeId} {ks:List C} (h:Sh Try.prog t ks):(t=61→∃ e:St1,ks=e.cells∧StB e)∧(t=23→∃ es:List St1,ks=[.isl 11 (St1.cellsL es)]∧es.length≤mx∧∀ e ∈ es,StB e):=by
 induction h with
 | int hu hn=>exact ⟨fun e=>(by rw [e,Try.underlying61] at hu;cases hu),fun e=>(by rw [e,Try.underlying23] at hu;cases hu)⟩
 | bool hu=>exact ⟨fun e=>(by rw [e,Try.underlying61] at hu;cases hu),fun e=>(by rw [e,Try.underlying23] at hu;cases hu)⟩
 | sl hu hm hx ih =>
  refine ⟨fun e=>(by rw [e,Try.underlying61] at hu;cases hu),fun e=>?_⟩
  rw [e,Try.underlying23] at hu
  cases hu
  obtain ⟨es,rfl,hb⟩:=list_of (f:=St1.cells) (Q:=StB) _ fun r hr=>(ih r hr).1 rfl
  exact ⟨es,by rw [celX4,St1.cellsL_eq],by simpa using hm,hb⟩
 | st hu hl hx ih =>
  refine ⟨fun e=>?_,fun e=>(by rw [e,Try.underlying23] at hu;cases hu)⟩
  rw [e,Try.underlying61] at hu
  cases hu
  rename_i kss
  match kss,hl,hx,ih with
  | [a,b,c,d,e,f,g],_,hx,ih =>
   obtain ⟨k,rfl,_⟩:=sh_int (hx 0 _ a rfl rfl)
   obtain ⟨t,rfl,_⟩:=sh_int (hx 1 _ b rfl rfl)
   obtain ⟨ix,rfl,g1⟩:=(sh_ex (hx 2 _ c rfl rfl)).1 rfl
   obtain ⟨v,rfl,g2⟩:=(sh_ex (hx 3 _ d rfl rfl)).1 rfl
   obtain ⟨n,rfl,_⟩:=sh_int (hx 4 _ e rfl rfl)
   obtain ⟨bd,rfl,g3,g4⟩:=(ih 5 _ f rfl rfl).2 rfl
   obtain ⟨el,rfl,g5,g6⟩:=(ih 6 _ g rfl rfl).2 rfl
   exact ⟨.mk k t ix v n bd el,by simp [St1.cells],.mk _ _ _ _ _ _ _ g1 g2 g3 g5 g4 g6⟩
theorem sh_prog {ks:List C} (h:Sh Try.prog 25 ks):∃ p:Pg,ks=p.cells∧PgB p:=by
 obtain ⟨kss,rfl,hl,hx⟩:=h.st_of Try.underlying25
 match kss,hl,hx with
 | [a,b,c],_,hx =>
  obtain ⟨vs,rfl,h1⟩:=sh_ints (hx 0 _ a rfl rfl)
  obtain ⟨ar,rfl,h2⟩:=sh_ints (hx 1 _ b rfl rfl)
  obtain ⟨bd,rfl,h3,h4⟩:=(sh_st (hx 2 _ c rfl rfl)).2 rfl
  exact ⟨⟨vs,ar,bd⟩,rfl,⟨h1,h2,h3,h4⟩⟩
theorem drvZW {K:Bool} {m nt:Nat} {f:FuncId} {R:D→List (Option (List C))→Prop} {r:Option Rg} {k:List Item} {S:Ms} {fn:Func} (hfn:Try.prog.funcs[f]? = some fn) (h:drvW K Try.prog m f nt R fn.results.toList 12 r k S):XK K Try.prog m f nt R r k S :=
 drvW_sound hfn mo rfl 12 r k S h
theorem drvLW {K:Bool} {m nt:Nat} {f:FuncId} {R:D→List (Option (List C))→Prop} {k:List Item} {S:Ms} {fn:Func} (hfn:Try.prog.funcs[f]? = some fn) (h:drvW K Try.prog m f nt R fn.results.toList 12 none k S):Go K Try.prog m f nt R k S :=
 drvW_sound hfn mo rfl 12 none k S h
theorem dwZ (h0 : Yn.n = 0) {f : FuncId} {R' : Int → Prop} {args : List D} {fn : Func} {c : Code} (hf : Try.prog.funcs[f]? = some fn)
 (hg:drvW true Try.prog 0 f fn.ntmps (fun d h'=>(∃ n,d=DI .i64 n∧R' n)∧h'=[]) fn.results.toList 12 none [.code c] ⟨ofArgs 0 args,hpL [],0⟩) (hb:fn.body=some c:=by rfl) (hn:args.length≤fn.ntmps:=by simp):DW Try.prog f args R' :=
 dw_of_go h0 hf (drvW_sound hf mo rfl 12 none _ _ hg) hb hn
theorem lwZ {f : FuncId} {args args' : List D} {fn : Func} {c : Code} (hf : Try.prog.funcs[f]? = some fn) (ha : CoL false args' args)
 (hg:∀ (_:Yn),drvW true Try.prog 0 f fn.ntmps (fun d h'=>d=DB true∧h'=[]) fn.results.toList 12 none [.code c] ⟨ofArgs 0 args',hpL [],0⟩) (hb:fn.body=some c:=by rfl) (hn:args'.length≤fn.ntmps:=by simp):LW Try.prog f args :=
 lw_of_go hf ha (fun y=>@drvW_sound y _ _ _ _ _ _ _ hf mo _ rfl 12 none _ _ (hg y)) hb hn
mutual
def cyE (y : Bool) : Ex → List C
 | .mk k v ks=>[I64 k,I64 v,.csl y 3 (cyEL y ks)]
def cyEL (y : Bool) : List Ex → List (List C)
 | []=>[]
 | e :: r=>cyE y e :: cyEL y r
end
theorem cyEL_eq (y : Bool) : ∀ l : List Ex, cyEL y l = l.map (cyE y)
 | []=>by simp only [cyEL,List.map_nil]
 | e :: r=>by simp only [cyEL,List.map_cons,cyEL_eq y r]
mutual
def cyS (y : Bool) : St1 → List C
 | .mk k t ix v c b e=>[I64 k,I64 t]++cyE y ix++cyE y v++[I64 c,.csl y 11 (cySL y b),.csl y 11 (cySL y e)]
def cySL (y : Bool) : List St1 → List (List C)
 | []=>[]
 | s :: r=>cyS y s :: cySL y r
end
theorem cySL_eq (y : Bool) : ∀ l : List St1, cySL y l = l.map (cyS y)
 | []=>by simp only [cySL,List.map_nil]
 | e :: r=>by simp only [cySL,List.map_cons,cySL_eq y r]
def cyI (y:Bool) (l:List Int):C := .csl y 1 (l.map fun n=>[I64 n])
def cyP (y:Bool) (p:Pg):List C:=[cyI y p.vars,cyI y p.arrays,.csl y 11 (cySL y p.body)]
def cyM (y:Bool) (m:Mm):List C:=[cyI y m.vals,.csl y 1 (m.arrays.map fun a=>[cyI y a])]
mutual
def cnE : Ex → List C
 | .mk _ _ ks=>[.num .i64,.num .i64,.isl 3 (cnEL ks)]
def cnEL : List Ex → List (List C)
 | []=>[]
 | e :: r=>cnE e :: cnEL r
end
theorem cnEL_eq : ∀ l : List Ex, cnEL l = l.map cnE
 | []=>by simp only [cnEL,List.map_nil]
 | e :: r=>by simp only [cnEL,List.map_cons,cnEL_eq r]
mutual
def cnS : St1 → List C
 | .mk _ _ ix v _ b e=>[.num .i64,.num .i64]++cnE ix++cnE v++[.num .i64,.isl 11 (cnSL b),.isl 11 (cnSL e)]
def cnSL : List St1 → List (List C)
 | []=>[]
 | s :: r=>cnS s :: cnSL r
end
theorem cnSL_eq : ∀ l : List St1, cnSL l = l.map cnS
 | []=>by simp only [cnSL,List.map_nil]
 | e :: r=>by simp only [cnSL,List.map_cons,cnSL_eq r]
def cnI (l:List Int):C := .isl 1 (l.map fun _=>[.num .i64])
def cnP (p:Pg):List C:=[cnI p.vars,cnI p.arrays,.isl 11 (cnSL p.body)]
def cnM (m:Mm):List C:=[cnI m.vals,.isl 1 (m.arrays.map fun a=>[cnI a])]
theorem cyE_co (y : Bool) : ∀ (n : Nat) (e : Ex), SizeOf.sizeOf e ≤ n → Cos y (cyE y e) e.cells
 | 0,.mk k v ks,h=>by simp at h
 | n+1,.mk k v ks,h=>by
  simp only [cyE,Ex.cells,cyEL_eq,Ex.cellsL_eq]
  exact .cons (.rfl _) (.cons (.rfl _) (.cons (.map fun a ha=>cyE_co y n a (by have:=List.sizeOf_lt_of_mem ha;simp only [Ex.mk.sizeOf_spec] at h;omega)) .nil))
theorem cyS_co (y : Bool) : ∀ (n : Nat) (s : St1), SizeOf.sizeOf s ≤ n → Cos y (cyS y s) s.cells
 | 0,.mk k t ix v c b e,h=>by simp at h
 | n+1,.mk k t ix v c b e,h=>by
  simp only [St1.mk.sizeOf_spec] at h
  simp only [cyS,St1.cells,cySL_eq,St1.cellsL_eq]
  refine .app (.app (.app (.cons (.rfl _) (.cons (.rfl _) .nil)) (cyE_co y _ ix (Nat.le_refl _))) (cyE_co y _ v (Nat.le_refl _))) (.cons (.rfl _) (.cons (.map fun a ha=>?_) (.cons (.map fun a ha=>?_) .nil)))
  ·exact cyS_co y n a (by have:=List.sizeOf_lt_of_mem ha;omega)
  ·exact cyS_co y n a (by have:=List.sizeOf_lt_of_mem ha;omega)
theorem cyI_co (y:Bool) (l:List Int):Co y (cyI y l) (isI l):=by
 unfold cyI isI
 exact .map fun a ha => .cons (.rfl _) .nil
theorem cyP_co (y:Bool) (p:Pg):Cos y (cyP y p) p.cells:=by
 simp only [cyP,Pg.cells,cySL_eq,St1.cellsL_eq]
 exact .cons (cyI_co y _) (.cons (cyI_co y _) (.cons (.map fun a ha=>cyS_co y _ a (Nat.le_refl _)) .nil))
theorem cyE_yt : ∀ (n : Nat) (e : Ex), SizeOf.sizeOf e ≤ n → Yts (cyE true e) (cnE e)
 | 0,.mk k v ks,h=>by simp at h
 | n+1,.mk k v ks,h=>by
  simp only [cyE,cnE,cyEL_eq,cnEL_eq]
  exact .cons (.num _ _) (.cons (.num _ _) (.cons (.map fun a ha=>cyE_yt n a (by have:=List.sizeOf_lt_of_mem ha;simp only [Ex.mk.sizeOf_spec] at h;omega)) .nil))
theorem cyS_yt : ∀ (n : Nat) (s : St1), SizeOf.sizeOf s ≤ n → Yts (cyS true s) (cnS s)
 | 0,.mk k t ix v c b e,h=>by simp at h
 | n+1,.mk k t ix v c b e,h=>by
  simp only [St1.mk.sizeOf_spec] at h
  simp only [cyS,cnS,cySL_eq,cnSL_eq]
  refine .app (.app (.app (.cons (.num _ _) (.cons (.num _ _) .nil)) (cyE_yt _ ix (Nat.le_refl _))) (cyE_yt _ v (Nat.le_refl _))) (.cons (.num _ _) (.cons (.map fun a ha=>?_) (.cons (.map fun a ha=>?_) .nil)))
  ·exact cyS_yt n a (by have:=List.sizeOf_lt_of_mem ha;omega)
  ·exact cyS_yt n a (by have:=List.sizeOf_lt_of_mem ha;omega)
theorem cyI_yt (l:List Int):Yt (cyI true l) (cnI l):=by
 unfold cyI cnI
 exact .map fun a ha => .cons (.num _ _) .nil
theorem cyP_yt (p:Pg):Yts (cyP true p) (cnP p):=by
 simp only [cyP,cnP,cySL_eq,cnSL_eq]
 exact .cons (cyI_yt _) (.cons (cyI_yt _) (.cons (.map fun a ha=>cyS_yt _ a (Nat.le_refl _)) .nil))
theorem mk_sl {α:Type} {sz:Nat} {l:List α} {f:α→List C} (h:∀ a ∈ l,∀ c ∈ f a,Mk c):Mk (.isl sz (l.map f)) :=
 .sl _ _ fun r hr=>by obtain ⟨a,ha,rfl⟩:=List.mem_map.1 hr;exact h a ha
theorem cnE_mk : ∀ (n : Nat) (e : Ex), SizeOf.sizeOf e ≤ n → ∀ c ∈ cnE e, Mk c
 | 0,.mk k v ks,h=>by simp at h
 | n+1,.mk k v ks,h=>by
  intro c hc
  simp only [cnE,cnEL_eq,List.mem_cons,List.not_mem_nil,or_false] at hc
  rcases hc with rfl | rfl | rfl
  ·exact .num _
  ·exact .num _
  ·exact mk_sl fun a ha=>cnE_mk n a (by have:=List.sizeOf_lt_of_mem ha;simp only [Ex.mk.sizeOf_spec] at h;omega)
theorem cnS_mk : ∀ (n : Nat) (s : St1), SizeOf.sizeOf s ≤ n → ∀ c ∈ cnS s, Mk c
 | 0,.mk k t ix v c b e,h=>by simp at h
 | n+1,.mk k t ix v c b e,h=>by
  intro x hx
  simp only [St1.mk.sizeOf_spec] at h
  simp only [cnS,cnSL_eq,List.mem_append,List.mem_cons,List.not_mem_nil,or_false] at hx
  rcases hx with (((rfl | rfl) | hx) | hx) | rfl | rfl | rfl
  ·exact .num _
  ·exact .num _
  ·exact cnE_mk _ ix (Nat.le_refl _) x hx
  ·exact cnE_mk _ v (Nat.le_refl _) x hx
  ·exact .num _
  ·exact mk_sl fun a ha=>cnS_mk n a (by have:=List.sizeOf_lt_of_mem ha;omega)
  ·exact mk_sl fun a ha=>cnS_mk n a (by have:=List.sizeOf_lt_of_mem ha;omega)
theorem cnEL_mk (l:List Ex):Mk (.isl 3 (cnEL l)):=by rw [cnEL_eq];exact mk_sl fun a ha=>cnE_mk _ a (Nat.le_refl _)
theorem cnSL_mk (l:List St1):Mk (.isl 11 (cnSL l)):=by rw [cnSL_eq];exact mk_sl fun a ha=>cnS_mk _ a (Nat.le_refl _)
theorem cnI_mk (l:List Int):Mk (cnI l):=mk_sl fun a ha c hc=>by simp only [List.mem_singleton] at hc;subst hc;exact .num _
end Go.Proofs.Ytlapccpnilomfaa.CtD
