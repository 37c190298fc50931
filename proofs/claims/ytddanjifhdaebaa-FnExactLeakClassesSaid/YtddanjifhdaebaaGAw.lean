/- Contracts of functions of the program, one behind the other, as plain data: what each call returns and which blocks it leaves. -/
import Derived.Test.YtddanjifhdaebaaGFacts
import Derived.Test.YtddanjifhdaebaaGAk
import Derived.Test.YtddanjifhdaebaaGAm
import Derived.Test.YtddanjifhdaebaaGAr
import Derived.Test.YtddanjifhdaebaaGAs
import Derived.Test.YtddanjifhdaebaaGAt
import Derived.Test.YtddanjifhdaebaaGAu
import Derived.Test.YtddanjifhdaebaaGAv
set_option linter.unusedVariables false
set_option linter.unusedSimpArgs false
set_option linter.unusedSectionVars false
set_option maxHeartbeats 16000000
set_option maxRecDepth 100000
namespace Go.Proofs.Ytddanjifhdaebaa.CtD
open Go Go.CT CtF CtR
variable [Yn]
theorem lawXLC (p:Pg) (m:Mm) (v:Int) (hp:PgB p) (hm:MmB m):LW Try.prog 11 [.agg p.cells,.agg m.cells,DI .i64 v]:=by
 have hmx:=mx_eq
 refine lwZ Try.func11 (.cons (.agg (cyP_co false p)) (.cons (.agg (cyM_co false m)) (.cons (.rfl _) .nil))) fun y=>?_
 have z1:=(szProgram_c p hp 1048576 (by omega) (by omega)).er (.cons (.agg (cyP_co false p)) (.cons (y:=false) (.rfl _) .nil))
 have ret:∀ hp:Hp,RetOb 0 (fun d h=>d=DB true∧h=[]) (DB true) hp:=fun hp=>RetOb.plain (d:=DB true) ⟨rfl,rfl⟩ rfl
 by_cases q1:((szP p:Nat):Int)≤1048576
 ·rw [subZ,if_pos q1] at z1
  have g1:((1048576:Int) - (szP p:Int)<0)=False:=eq_false (by omega)
  have z2:=(szMemory_c m hm (1048576 - (szP p:Int)) (by omega) (by omega)).er (.cons (.agg (cyM_co false m)) (.cons (y:=false) (.rfl _) .nil))
  by_cases q2:((szM m:Nat):Int)≤1048576 - (szP p:Int)
  ·rw [subZ,if_pos q2] at z2
   have g2:((1048576:Int) - (szP p:Int) - (szM m:Int)<0)=False:=eq_false (by omega)
   have np:=pgN_of (p:=p) (by omega)
   have nm:=mmN_of (m:=m) (by omega)
   have hls:lsize 5 p.body≤1048576:=by
    have h1:=lsize_le 5 p.body
    have h2:szSL p.body≤szP p:=by unfold szP;omega
    omega
   have nv:=np.nv
   have nar:=np.na
   have c1:=(toProgram_y p np).er (.cons (.agg (cyP_co false p)) .nil)
   have c2:=(toMemory_y m nm).er (.cons (.agg (cyM_co false m)) .nil)
   have e1:=(eqProgram_c p hp).er (.cons (.agg (cyP_co true p)) (.cons (.agg (cyP_co true p)) .nil))
   have e2:=(eqMemory_c m hm).er (.cons (.agg (cyM_co true m)) (.cons (.agg (cyM_co true m)) .nil))
   have hs:=(leakClassesSO p m v (by omega) (by omega) (by omega)).er (.cons (.agg (cyP_co true p)) (.cons (.agg (cyM_co true m)) (.cons (y:=true) (.rfl _) .nil)))
   have hi:=(leakClassesIO p m v (by omega) (by omega)).er (.cons (.agg (cyP_co true p)) (.cons (.agg (cyM_co true m)) (.cons (y:=true) (.rfl _) .nil)))
   have hLm:(lcP p m v).length≤256:=by
    rcases Classical.em (lcP p m v=[]) with h | h
    ·rw [h];simp
    ·exact Nat.le_of_eq (lcP_len h).2.2.2
   have hmk:=markP1 p np (by omega)
   have hmm:=markM1 m nm (by omega)
   have hyt:=cyP_yt p
   have hyw:=fun hT=>cyM_yw (hT:=hT) m
   have hwt:=cwM_yt m
   generalize lcP p m v=L at *
   generalize szP p=s1 at *
   generalize szM m=s2 at *
   obtain ⟨vs,ar,bd⟩:=p
   obtain ⟨va,arr⟩:=m
   simp only [cyP,cyM,cyI,cwM,cwI] at hyt hyw hwt c1 c2 e1 e2 hs hi z1 z2 ⊢
   simp only [go_sem]
   iterate 10 ((try (refine drvZ Try.func11 ?_;simp only [go_sem,g1,g2]));((with_reducible and_intros)<;>try exact sd);(try first | refine XK.p z1 ok22 ?_ | refine XK.gp z1 ok22 ?_ | refine XK.p z2 ok44 ?_ | refine XK.gp z2 ok44 ?_ | refine XK.p c1 ok24 ?_ | refine XK.gp c1 ok24 ?_ | refine XK.p c2 ok46 ?_ | refine XK.gp c2 ok46 ?_))
   refine XK.callG [] hs ok56 (fun i' x h=>by simp at h) (hbT ()) (fun d h' ⟨_,e⟩=>by subst e;simp) ?_ (fun _=>⟨by kernel_rfl,_,_,⟨rfl,rfl⟩,by simp⟩)
   rintro _ _ ⟨rfl,rfl⟩ _
   iterate 6 ((try (refine drvZ Try.func11 ?_;simp only [go_sem,I_ren]));((with_reducible and_intros)<;>try exact sd);(try first | refine XK.p c1 ok24 ?_ | refine XK.gp c1 ok24 ?_ | refine XK.p c2 ok46 ?_ | refine XK.gp c2 ok46 ?_))
   refine XK.callG [] hi ok57 (fun i' x h=>by simp at h) (hbT ()) (fun d h' ⟨_,e⟩=>by subst e;simp) ?_
   rintro _ _ ⟨rfl,rfl⟩ _
   iterate 4 ((try (refine drvZ Try.func11 ?_;simp only [go_sem,I_ren]));((with_reducible and_intros)<;>try exact sd))
   have heq:=eqIntO L (by omega)
   refine XK.callG [2176,1344] heq ok48 (hhpG (by simp [HH,upd,hOf,I_ren])) (hbT ()) (fun d h' ⟨_,e⟩=>by subst e;simp) ?_
   rintro _ _ ⟨rfl,rfl⟩ _
   iterate 10 ((try (refine drvZ Try.func11 ?_;simp only [go_sem,I_ren,bne_self_eq_false]));((with_reducible and_intros)<;>try exact sd);(try first | refine XK.p c1 ok24 ?_ | refine XK.gp c1 ok24 ?_ | refine XK.p c2 ok46 ?_ | refine XK.gp c2 ok46 ?_ | refine XK.p e1 ok27 ?_ | refine XK.gp e1 ok27 ?_ | refine XK.p e2 ok49 ?_ | refine XK.gp e2 ok49 ?_))
   refine XK.mark [(2,DI .i64 v),(3,.c (.ptr 0 0)),(4,.c (.ptr 64 0)),(8,.c (.msl 1344 1 0 L.length)),(10,.c (.ptr 1856 0)),(11,.c (.msl 2176 1 0 L.length))] [(0,some [.csl false 1 (vs.map fun n=>[I64 n]),.csl false 1 (ar.map fun n=>[I64 n]),.csl false 11 (cySL false bd)]),(64,some [.csl false 1 (va.map fun n=>[I64 n]),.csl false 1 (arr.map fun a=>[.csl false 1 (a.map fun n=>[I64 n])])]),(1344,some (L.map I64)),(2176,some (L.map I64)),(1856,some [.csl true 1 (va.map fun _=>[.num .i64]),.csl true 1 (arr.map fun a=>[.csl true 1 (a.map fun _=>[.num .i64])])])] hmk ok28 (.cons (.agg hyt) (.cons (.c (.v _)) .nil)) (HL.cons rfl (.od (cyP_od ⟨vs,ar,bd⟩)) (HL.cons rfl (.od (cyM_od ⟨va,arr⟩)) (HL.cons rfl (.od (ints_od L)) (HL.cons rfl (.od (ints_od L)) (HL.cons rfl (hyw _) HL.nil))))) (ML.cons rfl (.c (.od (.v _))) (ML.cons rfl (.c (.od (.ptr _ _ (by simp [hOf,upd])))) (ML.cons rfl (.c (.od (.ptr _ _ (by simp [hOf,upd])))) (ML.cons rfl (.c (.od (.msl _ _ _ _ (by simp [hOf,upd])))) (ML.cons rfl (.c (.od (.ptr _ _ (by simp [hOf,upd])))) (ML.cons rfl (.c (.od (.msl _ _ _ _ (by simp [hOf,upd])))) ML.nil)))))) ?_
   rintro n ⟨hn0,hn1⟩
   iterate 3 ((try (refine drvZ Try.func11 ?_;simp only [go_sem,I_ren]));((with_reducible and_intros)<;>try exact sd))
   refine XK.mark [(2,DI .i64 v),(3,.c (.ptr 0 0)),(4,.c (.ptr 64 0)),(8,.c (.msl 1344 1 0 L.length)),(11,.c (.msl 2176 1 0 L.length))] [(0,some [.csl false 1 (vs.map fun n=>[I64 n]),.csl false 1 (ar.map fun n=>[I64 n]),.csl false 11 (cySL false bd)]),(64,some [.csl false 1 (va.map fun n=>[I64 n]),.csl false 1 (arr.map fun a=>[.csl false 1 (a.map fun n=>[I64 n])])]),(1344,some (L.map I64)),(2176,some (L.map I64))] (hmm n ⟨hn0,hn1⟩) ok50 (.cons (.agg hwt) (.cons (.c (.v _)) .nil)) (HL.cons rfl (.od (cyP_od ⟨vs,ar,bd⟩)) (HL.cons rfl (.od (cyM_od ⟨va,arr⟩)) (HL.cons rfl (.od (ints_od L)) (HL.cons rfl (.od (ints_od L)) HL.nil)))) (ML.cons rfl (.c (.od (.v _))) (ML.cons rfl (.c (.od (.ptr _ _ (by simp [hOf,upd])))) (ML.cons rfl (.c (.od (.ptr _ _ (by simp [hOf,upd])))) (ML.cons rfl (.c (.od (.msl _ _ _ _ (by simp [hOf,upd])))) (ML.cons rfl (.c (.od (.msl _ _ _ _ (by simp [hOf,upd])))) ML.nil))))) ?_
   rintro n2 ⟨hn3,hn4⟩
   have hn2:(n2<0)=False:=eq_false (by omega)
   iterate 3 ((try (refine drvZ Try.func11 ?_;simp only [go_sem,hn2,I_ren]));((with_reducible and_intros)<;>try exact sd))
   refine XK.callT 2 false [2176,1344] heq ok48 (hhpG (by simp [HH,upd,hOf,I_ren])) (hbT ()) (fun d h' ⟨_,e⟩=>by subst e;simp) ?_
   rintro _ _ ⟨rfl,rfl⟩ _
   iterate 4 ((try (refine drvZ Try.func11 ?_;simp only [go_sem,hn2,I_ren,bne_self_eq_false]));((with_reducible and_intros)<;>try exact sd))
   have hmb:=markIntO L (by omega)
   refine XK.callG [2176] hmb ok51 (hhpG (by simp [HH,upd,hOf,I_ren])) (hbT ()) (fun d h' ⟨_,e⟩=>by subst e;simp) ?_
   rintro _ _ ⟨rfl,rfl⟩ _
   iterate 4 ((try (refine drvZ Try.func11 ?_;simp only [go_sem,I_ren]));((with_reducible and_intros)<;>try exact sd))
   have hhb:=heldIntO 1 L.length (by omega) (by omega) (by omega)
   refine XK.callG [2176] hhb ok52 (hhpG (by simp [HH,upd,hOf,I_ren])) (hbT ()) (fun d h' ⟨_,e⟩=>by subst e;simp) ?_
   rintro _ _ ⟨rfl,rfl⟩ _
   have hq0:((1:Int)+(L.length:Int)<0)=False:=eq_false (by omega)
   iterate 7 ((try (refine drvZ Try.func11 ?_;simp only [go_sem,hq0,bne_self_eq_false,I_ren]));((with_reducible and_intros)<;>try exact sd);(try first | refine XK.p c1 ok24 ?_ | refine XK.gp c1 ok24 ?_ | refine XK.p c2 ok46 ?_ | refine XK.gp c2 ok46 ?_))
   refine XK.callG [] hi ok57 (fun i' x h=>by simp at h) (hbT ()) (fun d h' ⟨_,e⟩=>by subst e;simp) ?_ (fun _=>⟨by kernel_rfl,_,_,⟨rfl,rfl⟩,by simp⟩)
   rintro _ _ ⟨rfl,rfl⟩ _
   iterate 3 ((try (refine drvZ Try.func11 ?_;simp only [go_sem,I_ren]));((with_reducible and_intros)<;>try exact sd))
   refine XK.callG [5568,1344] heq ok48 (hhpG (by simp [HH,upd,hOf,I_ren])) (hbT ()) (fun d h' ⟨_,e⟩=>by subst e;simp) ?_
   rintro _ _ ⟨rfl,rfl⟩ _
   iterate 5 ((try (refine drvZ Try.func11 ?_;simp only [go_sem,bne_self_eq_false,I_ren]));((with_reducible and_intros)<;>try exact sd))
   refine XK.callG [2176] hhb ok52 (hhpG (by simp [HH,upd,hOf,I_ren])) (hbT ()) (fun d h' ⟨_,e⟩=>by subst e;simp) ?_
   rintro _ _ ⟨rfl,rfl⟩ _
   iterate 6 ((try (refine drvZ Try.func11 ?_;simp only [go_sem,hq0,bne_self_eq_false,I_ren]));((with_reducible and_intros)<;>try exact sd))
   exact ret _
  ·rw [subZ,if_neg q2] at z2
   obtain ⟨vs,ar,bd⟩:=p
   obtain ⟨va,arr⟩:=m
   simp only [cyP,cyM,cyI] at z1 z2 ⊢
   generalize szP ⟨vs,ar,bd⟩=s1 at *
   simp only [go_sem]
   iterate 7 ((try (refine drvZ Try.func11 ?_;simp only [go_sem,g1]));((with_reducible and_intros)<;>try exact sd);(try first | refine XK.p z1 ok22 ?_ | refine XK.gp z1 ok22 ?_ | refine XK.p z2 ok44 ?_ | refine XK.gp z2 ok44 ?_))
   exact ret _
 ·rw [subZ,if_neg q1] at z1
  obtain ⟨vs,ar,bd⟩:=p
  obtain ⟨va,arr⟩:=m
  simp only [cyP,cyM,cyI] at z1 ⊢
  simp only [go_sem]
  iterate 4 ((try (refine drvZ Try.func11 ?_;simp only [go_sem]));((with_reducible and_intros)<;>try exact sd);(try first | refine XK.p z1 ok22 ?_ | refine XK.gp z1 ok22 ?_))
  exact ret _
end Go.Proofs.Ytddanjifhdaebaa.CtD
