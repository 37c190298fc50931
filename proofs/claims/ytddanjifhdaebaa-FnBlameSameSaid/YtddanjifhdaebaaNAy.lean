/- Contracts of functions of the program, one behind the other, as plain data: what each call returns and which blocks it leaves. -/
import Derived.Test.YtddanjifhdaebaaNFacts
import Derived.Test.YtddanjifhdaebaaNAi
import Derived.Test.YtddanjifhdaebaaNAk
import Derived.Test.YtddanjifhdaebaaNAm
import Derived.Test.YtddanjifhdaebaaNAn
import Derived.Test.YtddanjifhdaebaaNAo
import Derived.Test.YtddanjifhdaebaaNAq
import Derived.Test.YtddanjifhdaebaaNAr
import Derived.Test.YtddanjifhdaebaaNAv
import Derived.Test.YtddanjifhdaebaaNAx
set_option linter.unusedVariables false
set_option linter.unusedSimpArgs false
set_option linter.unusedSectionVars false
set_option maxHeartbeats 16000000
set_option maxRecDepth 100000
namespace Go.Proofs.Ytddanjifhdaebaa.CtD
open Go Go.CT CtF CtR
variable [Yn]
open CtL (In Cd runC blmC blmC_law brn atC)
theorem lawBInstr (bs:List Int) (hb:Fits .u8 bs) (hl:bs.length≤mx):DC Try.prog 10 [bytesD bs] [] (fun d h=>d=DB true∧h=[]):=by
 have hmx:=mx_eq
 have hdr:=drawBlameInstr bs hb hl
 unfold bytesD
 unfold bytesD at hdr
 have ret:∀ hp:Hp,RetOb 0 (fun d h=>d=DB true∧h=[]) (DB true) hp:=fun hp=>RetOb.plain (d:=DB true) ⟨rfl,rfl⟩ rfl
 generalize hRR:(fun (d:D) (h:List (Option (List C)))=>d=DB true∧h=[])=R at ret ⊢
 by_cases hbig:1048576<bs.length
 ·have hz:((1048576:Int)<(bs.length:Int))=True:=eq_true (by omega)
  refine dcZ Try.func10 ?_
  simp only [go_sem,hz]
  iterate 3 ((try (refine drvZ Try.func10 ?_;simp only [go_sem,hz]));((with_reducible and_intros)<;>try exact sd))
  exact ret _
 have hz:((1048576:Int)<(bs.length:Int))=False:=eq_false (by omega)
 refine dcZ Try.func10 ?_
 simp only [go_sem,hz]
 iterate 3 ((try (refine drvZ Try.func10 ?_;simp only [go_sem,hz]));((with_reducible and_intros)<;>try exact sd))
 refine XK.callG [] hdr ok53 (fun i' x h=>by simp at h) (hbT ()) (fun d h' ⟨_,_,_,_,_,_,_,e⟩=>by subst e;simp) ?_
 rintro _ _ ⟨c,a,b,rfl,h1,h2,h3,rfl⟩ _
 clear hdr
 have hbi:=blameInstrG c a b (by omega) (by omega) (by omega)
 have hbs:=blameInstrS c a b (by omega) (by omega) (by omega)
 have hlaw:=blmC_law c a b
 generalize blmC c a b=k at *
 obtain ⟨vs,ar,l⟩:=c
 obtain ⟨va,arr⟩:=a
 obtain ⟨va',arr'⟩:=b
 simp only [cdC] at *
 rcases hlaw with ⟨rfl,_,_⟩ | ⟨pc,rfl,_,_,_,_,hpc,ho⟩
 ·iterate 14 ((try (refine drvZ Try.func10 ?_;simp only [go_sem,Mm.cells,bne_self_eq_false,beq_self_eq_true]));((with_reducible and_intros)<;>try exact sd);(try first | refine XK.p hbi ok54 ?_ | refine XK.gp hbi ok54 ?_ | refine XK.p hbs ok55 ?_ | refine XK.gp hbs ok55 ?_))
  exact ret _
 ·have g1:((pc:Int)<0)=False:=eq_false (by omega)
  obtain ⟨x,hx⟩:∃ x,l[pc]? = some x:=⟨l[pc],by simp [hpc]⟩
  have hxl:(l.map inX)[pc]? = some (inX x):=by rw [List.getElem?_map,hx];rfl
  have hat:atC l pc=x:=by simp [atC,List.getD,hx]
  rw [hat] at ho
  unfold brn at ho
  obtain ⟨op,xa,xb,xc,xd⟩:=x
  simp only at ho
  rcases ho with rfl | rfl | rfl | rfl | rfl
  all_goals
   iterate 18 ((try (refine drvZ Try.func10 ?_;simp only [go_sem,Mm.cells,bne_self_eq_false,beq_self_eq_true,g1,hpc,hxl,inX,List.length_map]));((with_reducible and_intros)<;>try exact sd);(try first | refine XK.p hbi ok54 ?_ | refine XK.gp hbi ok54 ?_ | refine XK.p hbs ok55 ?_ | refine XK.gp hbs ok55 ?_))
   exact ret _
theorem lawBSame (bs:List Int) (hb:Fits .u8 bs) (hl:bs.length≤mx):DC Try.prog 12 [bytesD bs] [] (fun d h=>d=DB true∧h=[]):=by
 have hmx:=mx_eq
 have hdr:=drawBlameInstr bs hb hl
 unfold bytesD
 unfold bytesD at hdr
 have ret:∀ hp:Hp,RetOb 0 (fun d h=>d=DB true∧h=[]) (DB true) hp:=fun hp=>RetOb.plain (d:=DB true) ⟨rfl,rfl⟩ rfl
 generalize hRR:(fun (d:D) (h:List (Option (List C)))=>d=DB true∧h=[])=R at ret ⊢
 by_cases hbig:1048576<bs.length
 ·have hz:((1048576:Int)<(bs.length:Int))=True:=eq_true (by omega)
  refine dcZ Try.func12 ?_
  simp only [go_sem,hz]
  iterate 3 ((try (refine drvZ Try.func12 ?_;simp only [go_sem,hz]));((with_reducible and_intros)<;>try exact sd))
  exact ret _
 have hz:((1048576:Int)<(bs.length:Int))=False:=eq_false (by omega)
 refine dcZ Try.func12 ?_
 simp only [go_sem,hz]
 iterate 3 ((try (refine drvZ Try.func12 ?_;simp only [go_sem,hz]));((with_reducible and_intros)<;>try exact sd))
 refine XK.callG [] hdr ok53 (fun i' x h=>by simp at h) (hbT ()) (fun d h' ⟨_,_,_,_,_,_,_,e⟩=>by subst e;simp) ?_
 rintro _ _ ⟨c,a,b,rfl,h1,h2,h3,rfl⟩ _
 clear hdr
 have hbi:=blameInstrG c a b (by omega) (by omega) (by omega)
 have hbj:=blameInstrG c b a (by omega) (by omega) (by omega)
 have hbs:=blameInstrS c a b (by omega) (by omega) (by omega)
 have hra:=runCodeG c a (by omega) (by omega) (by omega)
 have hrb:=runCodeG c b (by omega) (by omega) (by omega)
 have hla:=runC_len c a
 have hlb:=runC_len c b
 have hlaw:=blmC_law c a b
 generalize blmC c a b=k at *
 generalize blmC c b a=k2 at *
 generalize runC c a=X at *
 generalize runC c b=Y at *
 obtain ⟨⟨u1,u2⟩,t1,b1⟩:=X
 obtain ⟨⟨v1,v2⟩,t2,b2⟩:=Y
 simp only at hla hlb hlaw
 have hts:=traceSame t1 t2 (by omega)
 have hti:=trSame_iff t1 t2
 generalize trSame t1 t2=q at *
 obtain ⟨vs,ar,l⟩:=c
 obtain ⟨va,arr⟩:=a
 obtain ⟨va',arr'⟩:=b
 simp only [cdC] at *
 rcases hlaw with ⟨rfl,rfl,hne⟩ | ⟨pc,rfl,rfl,rfl,rfl,hne,hpc,ho⟩
 ·cases b1 with
  | false =>
   iterate 20 ((try (refine drvZ Try.func12 ?_;simp only [go_sem,Mm.cells,trD,bne_self_eq_false,beq_self_eq_true,Int.reduceLE]));((with_reducible and_intros)<;>try exact sd);(try first | refine XK.p hbi ok54 ?_ | refine XK.gp hbi ok54 ?_ | refine XK.p hbs ok55 ?_ | refine XK.gp hbs ok55 ?_ | refine XK.p hra ok58 ?_ | refine XK.gp hra ok58 ?_ | refine XK.p hrb ok58 ?_ | refine XK.gp hrb ok58 ?_ | refine XK.p hbj ok54 ?_ | refine XK.gp hbj ok54 ?_ | refine XK.gs (DB false) ?_))
   exact ret _
  | true =>
   cases b2 with
   | false =>
    iterate 20 ((try (refine drvZ Try.func12 ?_;simp only [go_sem,Mm.cells,trD,bne_self_eq_false,beq_self_eq_true,Int.reduceLE]));((with_reducible and_intros)<;>try exact sd);(try first | refine XK.p hbi ok54 ?_ | refine XK.gp hbi ok54 ?_ | refine XK.p hbs ok55 ?_ | refine XK.gp hbs ok55 ?_ | refine XK.p hra ok58 ?_ | refine XK.gp hra ok58 ?_ | refine XK.p hrb ok58 ?_ | refine XK.gp hrb ok58 ?_ | refine XK.p hbj ok54 ?_ | refine XK.gp hbj ok54 ?_ | refine XK.gs (DB false) ?_))
    exact ret _
   | true =>
    have hq:q=true:=by
     rw [hti]
     exact Classical.byContradiction fun h=>hne ⟨rfl,rfl,h⟩
    subst hq
    iterate 20 ((try (refine drvZ Try.func12 ?_;simp only [go_sem,Mm.cells,trD,bne_self_eq_false,beq_self_eq_true,Int.reduceLE]));((with_reducible and_intros)<;>try exact sd);(try first | refine XK.p hbi ok54 ?_ | refine XK.gp hbi ok54 ?_ | refine XK.p hbs ok55 ?_ | refine XK.gp hbs ok55 ?_ | refine XK.p hra ok58 ?_ | refine XK.gp hra ok58 ?_ | refine XK.p hrb ok58 ?_ | refine XK.gp hrb ok58 ?_ | refine XK.p hbj ok54 ?_ | refine XK.gp hbj ok54 ?_ | refine XK.p hts ok59 ?_ | refine XK.gp hts ok59 ?_))
    exact ret _
 ·have hq:q=false:=by
   cases q with
   | false=>rfl
   | true=>exact absurd (hti.1 rfl) hne
  subst hq
  have g1:((0:Int)≤(pc:Int))=True:=eq_true (by omega)
  iterate 20 ((try (refine drvZ Try.func12 ?_;simp only [go_sem,Mm.cells,trD,bne_self_eq_false,beq_self_eq_true,g1]));((with_reducible and_intros)<;>try exact sd);(try first | refine XK.p hbi ok54 ?_ | refine XK.gp hbi ok54 ?_ | refine XK.p hbs ok55 ?_ | refine XK.gp hbs ok55 ?_ | refine XK.p hra ok58 ?_ | refine XK.gp hra ok58 ?_ | refine XK.p hrb ok58 ?_ | refine XK.gp hrb ok58 ?_ | refine XK.p hbj ok54 ?_ | refine XK.gp hbj ok54 ?_ | refine XK.p hts ok59 ?_ | refine XK.gp hts ok59 ?_))
  exact ret _
end Go.Proofs.Ytddanjifhdaebaa.CtD
