/- Contracts of functions of the program, one behind the other, as plain data: what each call returns and which blocks it leaves. -/
import Derived.Test.YtddanjifhdaebaaEFacts
import Derived.Test.YtddanjifhdaebaaEAj
import Derived.Test.YtddanjifhdaebaaTG1
import Derived.Test.YtddanjifhdaebaaEAl
import Derived.Test.YtddanjifhdaebaaEAm
import Derived.Test.YtddanjifhdaebaaEAn
import Derived.Test.YtddanjifhdaebaaEAo
import Derived.Test.YtddanjifhdaebaaEAr
import Derived.Test.YtddanjifhdaebaaEAs
import Derived.Test.YtddanjifhdaebaaEAt
import Derived.Test.YtddanjifhdaebaaEAu
set_option linter.unusedVariables false
set_option linter.unusedSimpArgs false
set_option linter.unusedSectionVars false
set_option maxHeartbeats 16000000
set_option maxRecDepth 100000
namespace Go.Proofs.Ytddanjifhdaebaa.CtD
open Go Go.CT CtF CtR
variable [Yn]
theorem lawXTra (p:Pg) (hp:PgB p):LW Try.prog 5 [.agg p.cells]:=by
 have hmx:=mx_eq
 refine lwZ Try.func5 (.cons (.agg (cyP_co false p)) .nil) fun y=>?_
 have z1:=(szProgram_c p hp 1048576 (by omega) (by omega)).er (.cons (.agg (cyP_co false p)) (.cons (y:=false) (.rfl _) .nil))
 have ret:∀ hp:Hp,RetOb 0 (fun d h=>d=DB true∧h=[]) (DB true) hp:=fun hp=>RetOb.plain (d:=DB true) ⟨rfl,rfl⟩ rfl
 by_cases q1:((szP p:Nat):Int)≤1048576
 ·rw [subZ,if_pos q1] at z1
  have g1:((1048576:Int) - (szP p:Int)<0)=False:=eq_false (by omega)
  have np:=pgN_of (p:=p) (by omega)
  have hls:lsize 5 p.body≤1048576:=by
   have h1:=lsize_le 5 p.body
   have h2:szSL p.body≤szP p:=by unfold szP;omega
   omega
  have c1:=(toProgram_y p np).er (.cons (.agg (cyP_co false p)) .nil)
  have e1:=(eqProgram_c p hp).er (.cons (.agg (cyP_co true p)) (.cons (.agg (cyP_co true p)) .nil))
  cases hok:progOK p with
  | true =>
   have hln:=prog_len hok
   obtain ⟨w,hw⟩:∃ w,p.vars.length+p.arrays.length=w:=⟨_,rfl⟩
   have hs:=(traceDependsSO p hw (by omega) (by omega) (sownPN p np) (by omega) hok).er (.cons (.agg (cyP_co true p)) .nil)
   have hi:=(traceDependsO p hw (by omega) (by omega) hok).er (.cons (.agg (cyP_co true p)) .nil)
   have hLl:=bl_len w (depP p).tr
   have hw14:w≤14:=by omega
   have hmk:=markP1 p np (by omega)
   have hyt:=cyP_yt p
   generalize bl w (depP p).tr=L at *
   have hod:=cyP_od (hT:=fun _=>none) p
   generalize szP p=s1 at *
   obtain ⟨vs,ar,bd⟩:=p
   simp only [cyP,cyI] at hyt hod c1 e1 hs hi z1 ⊢
   simp only [go_sem]
   iterate 4 ((try (refine drvZ Try.func5 ?_;simp only [go_sem,g1]));((with_reducible and_intros)<;>try exact sd);(try first | refine XK.p z1 ok22 ?_ | refine XK.gp z1 ok22 ?_ | refine XK.p c1 ok24 ?_ | refine XK.gp c1 ok24 ?_))
   refine XK.callG [] hs ok31 (fun i' x h=>by simp at h) (hbT ()) (fun d h' ⟨_,e⟩=>by subst e;simp) ?_
   rintro _ _ ⟨rfl,rfl⟩ _
   iterate 4 ((try (refine drvZ Try.func5 ?_;simp only [go_sem,g1,boolsC_ren]));((with_reducible and_intros)<;>try exact sd);(try first | refine XK.p c1 ok24 ?_ | refine XK.gp c1 ok24 ?_))
   refine XK.callG [] hi ok32 (fun i' x h=>by simp at h) (hbT ()) (fun d h' ⟨_,e⟩=>by subst e;simp) ?_
   rintro _ _ ⟨rfl,rfl⟩ _
   iterate 2 ((try (refine drvZ Try.func5 ?_;simp only [go_sem,g1,boolsC_ren]));((with_reducible and_intros)<;>try exact sd);(try first | refine XK.p c1 ok24 ?_ | refine XK.gp c1 ok24 ?_))
   have heq:=eqBoolO L w hLl (by omega)
   refine XK.callG [1152,704] heq ok26 (hhpG (by simp [HH,upd,hOf,boolsC_ren])) (hbT ()) (fun d h' ⟨_,e⟩=>by subst e;simp) ?_
   rintro _ _ ⟨rfl,rfl⟩ _
   iterate 6 ((try (refine drvZ Try.func5 ?_;simp only [go_sem,g1,boolsC_ren]));((with_reducible and_intros)<;>try exact sd);(try first | refine XK.p c1 ok24 ?_ | refine XK.gp c1 ok24 ?_ | refine XK.p e1 ok27 ?_ | refine XK.gp e1 ok27 ?_))
   refine XK.mark [(1, .c (.ptr 0 0)), (4, .c (.msl 704 1 0 w)), (6, .c (.msl 1152 1 0 w))] [(0, some [.csl false 1 (vs.map fun n => [I64 n]), .csl false 1 (ar.map fun n => [I64 n]), .csl false 11 (cySL false bd)]), (704, some (boolsC L)), (1152, some (boolsC L))] hmk ok28 (.cons (.agg hyt) (.cons (.c (.v _)) .nil))
    (HL.cons rfl (cyP_od ⟨vs,ar,bd⟩) (HL.cons rfl (boolsC_od L) (HL.cons rfl (boolsC_od L) HL.nil))) (ML.cons rfl (.ptr _ _ (by simp [hOf,upd])) (ML.cons rfl (.msl _ _ _ _ (by simp [hOf,upd])) (ML.cons rfl (.msl _ _ _ _ (by simp [hOf,upd])) ML.nil))) ?_
   rintro n ⟨hn0,hn1⟩
   have hn2:(n<0)=False:=eq_false (by omega)
   iterate 4 ((try (refine drvZ Try.func5 ?_;simp only [go_sem,hn2,boolsC_ren]));((with_reducible and_intros)<;>try exact sd))
   refine XK.callT 2 false [1152,704] heq ok26 (hhpG (by simp [HH,upd,hOf,boolsC_ren])) (hbT ()) (fun d h' ⟨_,e⟩=>by subst e;simp) ?_
   rintro _ _ ⟨rfl,rfl⟩ _
   iterate 4 ((try (refine drvZ Try.func5 ?_;simp only [go_sem,hn2,boolsC_ren]));((with_reducible and_intros)<;>try exact sd))
   have hmb:=markBoolSO L 1 (by omega) (by omega)
   rw [hLl] at hmb
   refine XK.callG [1152] hmb ok29 (hhpG (by simp [HH,upd,hOf,boolsC_ren])) (hbT ()) (fun d h' ⟨_,e⟩=>by subst e;simp) ?_
   rintro _ _ ⟨rfl,rfl⟩ _
   iterate 4 ((try (refine drvZ Try.func5 ?_;simp only [go_sem,hn2,boolsC_ren]));((with_reducible and_intros)<;>try exact sd))
   have hhb:=heldBoolO 1 w (by omega) (by omega) (by omega)
   refine XK.callG [1152] hhb ok30 (hhpG (by simp [HH,upd,hOf,boolsC_ren])) (hbT ()) (fun d h' ⟨_,e⟩=>by subst e;simp) ?_
   rintro _ _ ⟨rfl,rfl⟩ _
   have hq0:((1:Int)+(w:Int)<0)=False:=eq_false (by omega)
   iterate 6 ((try (refine drvZ Try.func5 ?_;simp only [go_sem,hq0,bne_self_eq_false,boolsC_ren]));((with_reducible and_intros)<;>try exact sd);(try first | refine XK.p c1 ok24 ?_ | refine XK.gp c1 ok24 ?_))
   refine XK.callG [] hi ok32 (fun i' x h=>by simp at h) (hbT ()) (fun d h' ⟨_,e⟩=>by subst e;simp) ?_
   rintro _ _ ⟨rfl,rfl⟩ _
   iterate 3 ((try (refine drvZ Try.func5 ?_;simp only [go_sem,boolsC_ren]));((with_reducible and_intros)<;>try exact sd))
   refine XK.callG [3776,704] heq ok26 (hhpG (by simp [HH,upd,hOf,boolsC_ren])) (hbT ()) (fun d h' ⟨_,e⟩=>by subst e;simp) ?_
   rintro _ _ ⟨rfl,rfl⟩ _
   iterate 4 ((try (refine drvZ Try.func5 ?_;simp only [go_sem,boolsC_ren]));((with_reducible and_intros)<;>try exact sd))
   refine XK.callG [1152] hhb ok30 (hhpG (by simp [HH,upd,hOf,boolsC_ren])) (hbT ()) (fun d h' ⟨_,e⟩=>by subst e;simp) ?_
   rintro _ _ ⟨rfl,rfl⟩ _
   iterate 5 ((try (refine drvZ Try.func5 ?_;simp only [go_sem,hq0,bne_self_eq_false,boolsC_ren]));((with_reducible and_intros)<;>try exact sd))
   exact ret _
  | false =>
   have nv:=np.nv
   have nar:=np.na
   have hs:=(traceDependsS0G p (sownPN p np) (by omega) (by omega) (by omega) hok).er (.cons (.agg (cyP_co true p)) .nil)
   have hi:=(traceDependsI0 p (by omega) (by omega) hok).er (.cons (.agg (cyP_co true p)) .nil)
   have hmk:=markP1 p np (by omega)
   have hyt:=cyP_yt p
   have heq:=eqBoolN
   have hmb:=markBoolN
   have hhb:=heldBoolN
   generalize szP p=s1 at *
   obtain ⟨vs,ar,bd⟩:=p
   simp only [cyP,cyI] at hyt c1 e1 hs hi z1 ⊢
   simp only [go_sem]
   iterate 16 ((try (refine drvZ Try.func5 ?_;simp only [go_sem,g1]));((with_reducible and_intros)<;>try exact sd);(try first | refine XK.p z1 ok22 ?_ | refine XK.gp z1 ok22 ?_ | refine XK.p c1 ok24 ?_ | refine XK.gp c1 ok24 ?_ | refine XK.p hs ok31 ?_ | refine XK.gp hs ok31 ?_ | refine XK.p hi ok32 ?_ | refine XK.gp hi ok32 ?_ | refine XK.p heq ok26 ?_ | refine XK.gp heq ok26 ?_ | refine XK.p e1 ok27 ?_ | refine XK.gp e1 ok27 ?_))
   refine XK.mark [(1, .c (.ptr 0 0)), (4, .c (.isl 1 [])), (6, .c (.isl 1 []))] [(0, some [.csl false 1 (vs.map fun n => [I64 n]), .csl false 1 (ar.map fun n => [I64 n]), .csl false 11 (cySL false bd)])] hmk ok28 (.cons (.agg hyt) (.cons (.c (.v _)) .nil))
    (HL.cons rfl (cyP_od ⟨vs,ar,bd⟩) HL.nil) (ML.cons rfl (.ptr _ _ (by simp [hOf,upd])) (ML.cons rfl (.nil _) (ML.cons rfl (.nil _) ML.nil))) ?_
   rintro n ⟨hn0,hn1⟩
   have hn2:(n<0)=False:=eq_false (by omega)
   iterate 30 ((try (refine drvZ Try.func5 ?_;simp only [go_sem,hn2,Int.reduceLT,bne_self_eq_false]));((with_reducible and_intros)<;>try exact sd);(try first | refine XK.p c1 ok24 ?_ | refine XK.gp c1 ok24 ?_ | refine XK.p hi ok32 ?_ | refine XK.gp hi ok32 ?_ | refine XK.p heq ok26 ?_ | refine XK.gp heq ok26 ?_ | refine XK.p hmb ok29 ?_ | refine XK.gp hmb ok29 ?_ | refine XK.p hhb ok30 ?_ | refine XK.gp hhb ok30 ?_))
   exact ret _
 ·rw [subZ,if_neg q1] at z1
  obtain ⟨vs,ar,bd⟩:=p
  simp only [cyP,cyI] at *
  simp only [go_sem]
  iterate 4 ((try (refine drvZ Try.func5 ?_;simp only [go_sem]));((with_reducible and_intros)<;>try exact sd);(try first | refine XK.p z1 ok22 ?_ | refine XK.gp z1 ok22 ?_))
  exact ret _
theorem lawXSec (p:Pg) (hp:PgB p):LW Try.prog 8 [.agg p.cells]:=by
 have hmx:=mx_eq
 refine lwZ Try.func8 (.cons (.agg (cyP_co false p)) .nil) fun y=>?_
 have z1:=(szProgram_c p hp 1048576 (by omega) (by omega)).er (.cons (.agg (cyP_co false p)) (.cons (y:=false) (.rfl _) .nil))
 have ret:∀ hp:Hp,RetOb 0 (fun d h=>d=DB true∧h=[]) (DB true) hp:=fun hp=>RetOb.plain (d:=DB true) ⟨rfl,rfl⟩ rfl
 by_cases q1:((szP p:Nat):Int)≤1048576
 ·rw [subZ,if_pos q1] at z1
  have g1:((1048576:Int) - (szP p:Int)<0)=False:=eq_false (by omega)
  have np:=pgN_of (p:=p) (by omega)
  have hls:lsize 5 p.body≤1048576:=by
   have h1:=lsize_le 5 p.body
   have h2:szSL p.body≤szP p:=by unfold szP;omega
   omega
  have c1:=(toProgram_y p np).er (.cons (.agg (cyP_co false p)) .nil)
  have e1:=(eqProgram_c p hp).er (.cons (.agg (cyP_co true p)) (.cons (.agg (cyP_co true p)) .nil))
  cases hok:progOK p with
  | true =>
   have hln:=prog_len hok
   obtain ⟨w,hw⟩:∃ w,p.vars.length+p.arrays.length=w:=⟨_,rfl⟩
   have hs:=(secretOutputsSO p hw (by omega) (by omega) (sownPN p np) (by omega) hok).er (.cons (.agg (cyP_co true p)) .nil)
   have hi:=(secretOutputsIO p hw (by omega) (by omega) hok).er (.cons (.agg (cyP_co true p)) .nil)
   have hLl:=soL_len hw (by omega:w≤14)
   have hw14:w≤14:=by omega
   have hmk:=markP1 p np (by omega)
   have hyt:=cyP_yt p
   generalize soL p w=L at *
   have hod:=cyP_od (hT:=fun _=>none) p
   generalize szP p=s1 at *
   obtain ⟨vs,ar,bd⟩:=p
   simp only [cyP,cyI] at hyt hod c1 e1 hs hi z1 ⊢
   simp only [go_sem]
   iterate 4 ((try (refine drvZ Try.func8 ?_;simp only [go_sem,g1]));((with_reducible and_intros)<;>try exact sd);(try first | refine XK.p z1 ok22 ?_ | refine XK.gp z1 ok22 ?_ | refine XK.p c1 ok24 ?_ | refine XK.gp c1 ok24 ?_))
   refine XK.callG [] hs ok42 (fun i' x h=>by simp at h) (hbT ()) (fun d h' ⟨_,e⟩=>by subst e;simp) ?_
   rintro _ _ ⟨rfl,rfl⟩ _
   iterate 4 ((try (refine drvZ Try.func8 ?_;simp only [go_sem,g1,boolsC_ren]));((with_reducible and_intros)<;>try exact sd);(try first | refine XK.p c1 ok24 ?_ | refine XK.gp c1 ok24 ?_))
   refine XK.callG [] hi ok43 (fun i' x h=>by simp at h) (hbT ()) (fun d h' ⟨_,e⟩=>by subst e;simp) ?_
   rintro _ _ ⟨rfl,rfl⟩ _
   iterate 2 ((try (refine drvZ Try.func8 ?_;simp only [go_sem,g1,boolsC_ren]));((with_reducible and_intros)<;>try exact sd);(try first | refine XK.p c1 ok24 ?_ | refine XK.gp c1 ok24 ?_))
   have heq:=eqBoolO L w hLl (by omega)
   refine XK.callG [1152,704] heq ok26 (hhpG (by simp [HH,upd,hOf,boolsC_ren])) (hbT ()) (fun d h' ⟨_,e⟩=>by subst e;simp) ?_
   rintro _ _ ⟨rfl,rfl⟩ _
   iterate 6 ((try (refine drvZ Try.func8 ?_;simp only [go_sem,g1,boolsC_ren]));((with_reducible and_intros)<;>try exact sd);(try first | refine XK.p c1 ok24 ?_ | refine XK.gp c1 ok24 ?_ | refine XK.p e1 ok27 ?_ | refine XK.gp e1 ok27 ?_))
   refine XK.mark [(1, .c (.ptr 0 0)), (4, .c (.msl 704 1 0 w)), (6, .c (.msl 1152 1 0 w))] [(0, some [.csl false 1 (vs.map fun n => [I64 n]), .csl false 1 (ar.map fun n => [I64 n]), .csl false 11 (cySL false bd)]), (704, some (boolsC L)), (1152, some (boolsC L))] hmk ok28 (.cons (.agg hyt) (.cons (.c (.v _)) .nil))
    (HL.cons rfl (cyP_od ⟨vs,ar,bd⟩) (HL.cons rfl (boolsC_od L) (HL.cons rfl (boolsC_od L) HL.nil))) (ML.cons rfl (.ptr _ _ (by simp [hOf,upd])) (ML.cons rfl (.msl _ _ _ _ (by simp [hOf,upd])) (ML.cons rfl (.msl _ _ _ _ (by simp [hOf,upd])) ML.nil))) ?_
   rintro n ⟨hn0,hn1⟩
   have hn2:(n<0)=False:=eq_false (by omega)
   iterate 4 ((try (refine drvZ Try.func8 ?_;simp only [go_sem,hn2,boolsC_ren]));((with_reducible and_intros)<;>try exact sd))
   refine XK.callT 2 false [1152,704] heq ok26 (hhpG (by simp [HH,upd,hOf,boolsC_ren])) (hbT ()) (fun d h' ⟨_,e⟩=>by subst e;simp) ?_
   rintro _ _ ⟨rfl,rfl⟩ _
   iterate 4 ((try (refine drvZ Try.func8 ?_;simp only [go_sem,hn2,boolsC_ren]));((with_reducible and_intros)<;>try exact sd))
   have hmb:=markBoolSO L 1 (by omega) (by omega)
   rw [hLl] at hmb
   refine XK.callG [1152] hmb ok29 (hhpG (by simp [HH,upd,hOf,boolsC_ren])) (hbT ()) (fun d h' ⟨_,e⟩=>by subst e;simp) ?_
   rintro _ _ ⟨rfl,rfl⟩ _
   iterate 4 ((try (refine drvZ Try.func8 ?_;simp only [go_sem,hn2,boolsC_ren]));((with_reducible and_intros)<;>try exact sd))
   have hhb:=heldBoolO 1 w (by omega) (by omega) (by omega)
   refine XK.callG [1152] hhb ok30 (hhpG (by simp [HH,upd,hOf,boolsC_ren])) (hbT ()) (fun d h' ⟨_,e⟩=>by subst e;simp) ?_
   rintro _ _ ⟨rfl,rfl⟩ _
   have hq0:((1:Int)+(w:Int)<0)=False:=eq_false (by omega)
   iterate 6 ((try (refine drvZ Try.func8 ?_;simp only [go_sem,hq0,bne_self_eq_false,boolsC_ren]));((with_reducible and_intros)<;>try exact sd);(try first | refine XK.p c1 ok24 ?_ | refine XK.gp c1 ok24 ?_))
   refine XK.callG [] hi ok43 (fun i' x h=>by simp at h) (hbT ()) (fun d h' ⟨_,e⟩=>by subst e;simp) ?_
   rintro _ _ ⟨rfl,rfl⟩ _
   iterate 3 ((try (refine drvZ Try.func8 ?_;simp only [go_sem,boolsC_ren]));((with_reducible and_intros)<;>try exact sd))
   refine XK.callG [3776,704] heq ok26 (hhpG (by simp [HH,upd,hOf,boolsC_ren])) (hbT ()) (fun d h' ⟨_,e⟩=>by subst e;simp) ?_
   rintro _ _ ⟨rfl,rfl⟩ _
   iterate 4 ((try (refine drvZ Try.func8 ?_;simp only [go_sem,boolsC_ren]));((with_reducible and_intros)<;>try exact sd))
   refine XK.callG [1152] hhb ok30 (hhpG (by simp [HH,upd,hOf,boolsC_ren])) (hbT ()) (fun d h' ⟨_,e⟩=>by subst e;simp) ?_
   rintro _ _ ⟨rfl,rfl⟩ _
   iterate 5 ((try (refine drvZ Try.func8 ?_;simp only [go_sem,hq0,bne_self_eq_false,boolsC_ren]));((with_reducible and_intros)<;>try exact sd))
   exact ret _
  | false =>
   have nv:=np.nv
   have nar:=np.na
   have hs:=(secretOutputsS0G p (sownPN p np) (by omega) (by omega) (by omega) hok).er (.cons (.agg (cyP_co true p)) .nil)
   have hi:=(secretOutputsI0 p (by omega) (by omega) hok).er (.cons (.agg (cyP_co true p)) .nil)
   have hmk:=markP1 p np (by omega)
   have hyt:=cyP_yt p
   have heq:=eqBoolN
   have hmb:=markBoolN
   have hhb:=heldBoolN
   generalize szP p=s1 at *
   obtain ⟨vs,ar,bd⟩:=p
   simp only [cyP,cyI] at hyt c1 e1 hs hi z1 ⊢
   simp only [go_sem]
   iterate 16 ((try (refine drvZ Try.func8 ?_;simp only [go_sem,g1]));((with_reducible and_intros)<;>try exact sd);(try first | refine XK.p z1 ok22 ?_ | refine XK.gp z1 ok22 ?_ | refine XK.p c1 ok24 ?_ | refine XK.gp c1 ok24 ?_ | refine XK.p hs ok42 ?_ | refine XK.gp hs ok42 ?_ | refine XK.p hi ok43 ?_ | refine XK.gp hi ok43 ?_ | refine XK.p heq ok26 ?_ | refine XK.gp heq ok26 ?_ | refine XK.p e1 ok27 ?_ | refine XK.gp e1 ok27 ?_))
   refine XK.mark [(1, .c (.ptr 0 0)), (4, .c (.isl 1 [])), (6, .c (.isl 1 []))] [(0, some [.csl false 1 (vs.map fun n => [I64 n]), .csl false 1 (ar.map fun n => [I64 n]), .csl false 11 (cySL false bd)])] hmk ok28 (.cons (.agg hyt) (.cons (.c (.v _)) .nil))
    (HL.cons rfl (cyP_od ⟨vs,ar,bd⟩) HL.nil) (ML.cons rfl (.ptr _ _ (by simp [hOf,upd])) (ML.cons rfl (.nil _) (ML.cons rfl (.nil _) ML.nil))) ?_
   rintro n ⟨hn0,hn1⟩
   have hn2:(n<0)=False:=eq_false (by omega)
   iterate 30 ((try (refine drvZ Try.func8 ?_;simp only [go_sem,hn2,Int.reduceLT,bne_self_eq_false]));((with_reducible and_intros)<;>try exact sd);(try first | refine XK.p c1 ok24 ?_ | refine XK.gp c1 ok24 ?_ | refine XK.p hi ok43 ?_ | refine XK.gp hi ok43 ?_ | refine XK.p heq ok26 ?_ | refine XK.gp heq ok26 ?_ | refine XK.p hmb ok29 ?_ | refine XK.gp hmb ok29 ?_ | refine XK.p hhb ok30 ?_ | refine XK.gp hhb ok30 ?_))
   exact ret _
 ·rw [subZ,if_neg q1] at z1
  obtain ⟨vs,ar,bd⟩:=p
  simp only [cyP,cyI] at *
  simp only [go_sem]
  iterate 4 ((try (refine drvZ Try.func8 ?_;simp only [go_sem]));((with_reducible and_intros)<;>try exact sd);(try first | refine XK.p z1 ok22 ?_ | refine XK.gp z1 ok22 ?_))
  exact ret _
end Go.Proofs.Ytddanjifhdaebaa.CtD
