/- Contracts of functions of the program, one behind the other, as plain data: what each call returns and which blocks it leaves. -/
import Derived.Test.YtbknljofedfpjaaXFacts
import Derived.Test.YtbknljofedfpjaaXAi
import Derived.Test.YtbknljofedfpjaaXAl
import Derived.Test.YtbknljofedfpjaaXAn
import Derived.Test.YtbknljofedfpjaaXAo
set_option linter.unusedVariables false
set_option linter.unusedSimpArgs false
set_option linter.unusedSectionVars false
set_option maxHeartbeats 16000000
set_option maxRecDepth 100000
namespace Go.Proofs.Ytbknljofedfpjaa.CtD
open Go Go.CT CtF CtR
variable [Yn]
theorem joinF (L M : List Bool) (hl : L.length ≤ 1000) (hM : M.length = L.length) :
 DC Try.prog 38 [.c (.msl 0 1 0 L.length),.c (boolsD M)] [some (boolsC L)] (fun r h=>r=DB (jnA L M L.length).1∧h=[some (boolsC (jnA L M L.length).2)]):=by
 have hmx:=mx_eq
 have hfl:=jnA_len L M
 generalize hR:(fun (r:D) (h:List (Option (List C)))=>r=DB (jnA L M L.length).1∧h=[some (boolsC (jnA L M L.length).2)])=R
 refine dcZ Try.func38 ?_
 simp only [go_sem,boolsD,BC,hM]
 ((try (refine drvZ Try.func38 ?_;simp only [go_sem,boolsD,BC,hM]));((with_reducible and_intros)<;>try exact sd))
 refine Go.loopQ (fun i : Nat => [(0, .c (.msl 0 1 0 L.length)), (1, .c (boolsD M)), (5, DB (jnA L M i).1), (6, DI .i64 i)])
  (fun i=>[(0,some (boolsC (jnA L M i).2))]) 4096 (fun i=>i≤L.length) (fun i=>L.length - i) ?_ 0 some [] _ (Nat.zero_le _) ?_
 ·intro i hi again
  have hFi:=hfl i
  rcases Nat.lt_or_ge i L.length with hlt | hge
  ·have a1:M[i]? = some (M.getD i false):=by rw [List.getD_eq_getElem?_getD,List.getElem?_eq_getElem (by omega)];rfl
   have a2:=@boolsC_at _ (jnA L M i).2 i (by omega)
   have hs:jnA L M (i+1)=if M.getD i false && !(jnA L M i).2.getD i false then (true,(jnA L M i).2.set i true) else jnA L M i:=rfl
   have hbl:=boolsC_len (jnA L M i).2
   rw [hFi] at hbl
   generalize jnA L M i=Fi at *
   obtain ⟨c,Li⟩:=Fi
   simp only at hFi hs a2 hbl
   cases hm:M.getD i false with
   | false =>
    rw [hm] at a1 hs
    simp only [Bool.false_and,Bool.false_eq_true,if_false] at hs
    refine drvL Try.func38 ?_
    simp only [go_sem,hlt,a1,a2,boolsD,BC,hM]
    iterate 4 ((try (refine drvZ Try.func38 ?_;simp only [go_sem,hlt,a1,a2,boolsD,BC,hM]));((with_reducible and_intros)<;>try exact sd))
    refine again (i+1) some [] _ hlt (by omega) ?_
    rw [hs]
    simp only [go_sem,TmOK,DM,DMs,CM,CMs,forall_eq,exists_eq_left,Mq,HpOK,LowOK,boolsD,BC,hM]
    simp
    exact CMs.kf (boolsC_kf _)
   | true =>
    rw [hm] at a1 hs
    cases hq:Li.getD i false with
    | true =>
     rw [hq] at a2 hs
     simp only [Bool.true_and,Bool.not_true,Bool.false_eq_true,if_false] at hs
     refine drvL Try.func38 ?_
     simp only [go_sem,hlt,a1,a2,boolsD,BC,hM]
     iterate 4 ((try (refine drvZ Try.func38 ?_;simp only [go_sem,hlt,a1,a2,boolsD,BC,hM]));((with_reducible and_intros)<;>try exact sd))
     refine again (i+1) some [] _ hlt (by omega) ?_
     rw [hs]
     simp only [go_sem,TmOK,DM,DMs,CM,CMs,forall_eq,exists_eq_left,Mq,HpOK,LowOK,boolsD,BC,hM]
     simp
     exact CMs.kf (boolsC_kf _)
    | false =>
     rw [hq] at a2 hs
     simp only [Bool.true_and,Bool.not_false,if_true] at hs
     refine drvL Try.func38 ?_
     simp only [go_sem,hlt,a1,a2,boolsD,BC,hM]
     iterate 5 ((try (refine drvZ Try.func38 ?_;simp only [go_sem,hlt,a1,a2,boolsC_set,hbl,boolsD,BC,hM]));((with_reducible and_intros)<;>try exact sd))
     refine again (i+1) some [] _ hlt (by omega) ?_
     rw [hs]
     simp only [go_sem,TmOK,DM,DMs,CM,CMs,forall_eq,exists_eq_left,Mq,HpOK,LowOK,boolsD,BC,hM]
     simp
     exact CMs.kf (boolsC_kf _)
  ·have hn2:¬ i<L.length:=by omega
   obtain rfl:i=L.length:=by omega
   refine drvL Try.func38 ?_
   simp only [go_sem,hn2,boolsD,BC,hM]
   iterate 2 ((try (refine drvZ Try.func38 ?_;simp only [go_sem,hn2,boolsD,BC,hM]));((with_reducible and_intros)<;>try exact sd))
   refine RetOb.ofQ some [] (DB (jnA L M L.length).1) [some (boolsC (jnA L M L.length).2)] ?_ (by rw [← hR];exact ⟨rfl,rfl⟩) (by simp)
   simp [enumL,DM,DMs,CM,HpOK,LowOK,hOf,upd]
   exact CMs.kf (boolsC_kf _)
 ·simp only [go_sem,TmOK,DM,DMs,CM,CMs,forall_eq,exists_eq_left,Mq,HpOK,LowOK,jnA,boolsD,BC,hM]
  simp
  exact CMs.kf (boolsC_kf _)
theorem bl_at {w N i:Nat} (h:i<w):(bl w N).getD i false=N.testBit i:=by
 rw [List.getD_eq_getElem?_getD,bl,List.getElem?_map,List.getElem?_range h];rfl
theorem bl_ext {w:Nat} {L:List Bool} {N:Nat} (hl:L.length=w) (h:∀ i,i<w→L.getD i false=N.testBit i):L=bl w N:=by
 refine List.ext_getElem (by rw [hl,bl_len]) fun i h1 h2=>?_
 have:=h i (by omega)
 rw [List.getD_eq_getElem?_getD,List.getElem?_eq_getElem h1] at this
 simp only [bl,List.getElem_map,List.getElem_range]
 exact this
theorem jnA_get (L M : List Bool) : ∀ i j, j < i → i ≤ L.length → (jnA L M i).2.getD j false = (L.getD j false || M.getD j false)
 | 0,j,h,_=>by omega
 | i+1,j,h,hl=>by
  have hh:=jnA_hi L M i i (Nat.le_refl _)
  have hle:=jnA_len L M i
  rw [jnA,hh]
  by_cases e:j=i
  ·subst e
   cases hm:M.getD j false<;>cases hL:L.getD j false
   all_goals simp only [Bool.false_and,Bool.true_and,Bool.not_true,Bool.not_false,Bool.false_eq_true,if_false,if_true,Bool.or_false,Bool.or_true]
   ·rw [jnA_hi L M j j (Nat.le_refl _),hL]
   ·rw [jnA_hi L M j j (Nat.le_refl _),hL]
   ·rw [List.getD_eq_getElem?_getD,List.getElem?_set_self (by omega)];rfl
   ·rw [jnA_hi L M j j (Nat.le_refl _),hL]
  ·have ih:=jnA_get L M i j (by omega) (by omega)
   split
   ·rw [← ih,List.getD_eq_getElem?_getD,List.getD_eq_getElem?_getD,List.getElem?_set_ne (by omega)]
   ·exact ih
theorem jn_bits {w a b:Nat}:(jnA (bl w a) (bl w b) w).2=bl w (a ||| b) :=
 bl_ext (by rw [jnA_len,bl_len]) fun i hi=>by rw [jnA_get _ _ w i hi (by rw [bl_len];omega),bl_at hi,bl_at hi,Nat.testBit_or]
theorem jn_flag {w a b:Nat} (ha:a<2 ^ w) (hb:b<2 ^ w):(jnA (bl w a) (bl w b) w).1 = !decide (a ||| b=a):=by
 have h:=jnA_iff (bl w a) (bl w b) w
 cases hc:(jnA (bl w a) (bl w b) w).1 with
 | true =>
  obtain ⟨j,hj,h1,h2⟩:=h.1 hc
  rw [bl_at hj] at h1 h2
  have:a ||| b ≠ a:=fun e=>by
   have:=congrArg (fun x=>x.testBit j) e
   simp only [Nat.testBit_or,h1,h2] at this
   cases this
  simp [this]
 | false =>
  have:a ||| b=a:=by
   refine Nat.eq_of_testBit_eq fun j=>?_
   rw [Nat.testBit_or]
   by_cases hj:j<w
   ·cases h1:b.testBit j with
    | false=>simp
    | true =>
     cases h2:a.testBit j with
     | true=>rfl
     | false=>exact absurd (h.2 ⟨j,hj,by rw [bl_at hj,h1],by rw [bl_at hj,h2]⟩) (by rw [hc];simp)
   ·rw [Nat.testBit_lt_two_pow (Nat.lt_of_lt_of_le hb (Nat.pow_le_pow_right (by omega) (by omega)))];simp
  simp [this]
theorem joinOO (w a b:Nat) (hw:w≤14) (ha:a<2 ^ w) (hb:b<2 ^ w):DC Try.prog 38 [.c (.msl 0 1 0 w),.c (.msl 1 1 0 w)] [some (boolsC (bl w a)),some (boolsC (bl w b))] (fun r h=>r=DB (!decide (a ||| b=a))∧h=[some (boolsC (bl w (a ||| b))),some (boolsC (bl w b))]):=by
 have h:=joinS (bl w a) (bl w b) (by rw [bl_len];omega) (by rw [bl_len,bl_len])
 rw [bl_len,jn_bits,jn_flag ha hb] at h
 exact h
theorem joinOF (w a b:Nat) (hw:w≤14) (ha:a<2 ^ w) (hb:b<2 ^ w):DC Try.prog 38 [.c (.msl 0 1 0 w),.c (boolsD (bl w b))] [some (boolsC (bl w a))] (fun r h=>r=DB (!decide (a ||| b=a))∧h=[some (boolsC (bl w (a ||| b)))]):=by
 have h:=joinF (bl w a) (bl w b) (by rw [bl_len];omega) (by rw [bl_len,bl_len])
 rw [bl_len,jn_bits,jn_flag ha hb] at h
 exact h
theorem rows_at {w:Nat} {S:List Nat} {i:Nat} (h:i<S.length):(S.map fun N=>[boolsD (bl w N)])[i]? = some [boolsD (bl w (dat S i))]:=by
 rw [List.getElem?_map,dat_get h];rfl
theorem bl_zero (w:Nat):List.replicate w false=bl w 0:=bl_ext (by simp) fun i hi=>by
 rw [List.getD_eq_getElem?_getD,List.getElem?_replicate,if_pos hi];simp
theorem exprD {w:Nat} (p:Pg) (hw:p.vars.length+p.arrays.length=w) (hw14:w≤14) (w0:0<w) (S:List Nat) (hS:S.length=w) (hr:∀ a ∈ S,a<2 ^ w):∀ (d:Nat) (e:Ex) (lk:Nat),CtR.shape p d e=true→lk<2 ^ w →
 DC Try.prog 53 [.agg p.cells,.c (rowsD w S),.agg e.cells,.c (.msl 0 1 0 w)] [some (boolsC (bl w lk))] (fun r h=>r = .c (.msl 1 1 0 w)∧h=[some (boolsC (bl w (lk ||| (setE p.vars.length S d e).2))),some (boolsC (bl w (setE p.vars.length S d e).1))]):=by
 have hmx:=mx_eq
 intro d
 induction d with
 | zero=>intro e tr h;simp [CtR.shape] at h
 | succ d ih =>
  intro e lk hsh hlk
  obtain ⟨k,v,ks⟩:=e
  obtain ⟨g1,g2,g3⟩:=shape_succ hsh
  obtain ⟨hl3,hla,hv0,hv1⟩:=fits_len g1
  have hlim:k=2→v<p.vars.length:=fun hk=>by subst hk;simpa [limit] using hv1
  have hlim3:k=3→v<p.arrays.length:=fun hk=>by subst hk;simpa [limit] using hv1
  have hce:=cellsS p (by omega) (by omega)
  rw [hw] at hce
  obtain ⟨vs,ar,bd⟩:=p
  have hw:vs.length+ar.length=w:=hw
  simp only at hlim hlim3 ih
  rw [setE_succ]
  simp only at ih ⊢
  have hp1:=fun e=>(setE_lt (nv:=vs.length) hr d e).1
  have hp2:=fun e=>(setE_lt (nv:=vs.length) hr d e).2
  have ho:=fun i=>fst1_lt (fun e=>(setE_lt (nv:=vs.length) hr d e).1) ks i
  have hta:=fun i=>Nat.or_lt_two_pow hlk (snd1_lt (fun e=>(setE_lt (nv:=vs.length) hr d e).2) ks i)
  have hda:=fun i=>dat_lt hr i
  have hf0:fst1 (setE vs.length S d) ks 0=0:=by simp [fst1]
  have hs0:lk ||| snd1 (setE vs.length S d) ks 0=lk:=by simp [snd1]
  have hstep:=fun i x h=>And.intro (fst1_succ (setE vs.length S d) ks i x h) (snd1_succ (setE vs.length S d) ks i x h)
  generalize setE vs.length S d=F at *
  generalize hR:(fun (r:D) (h:List (Option (List C)))=>r = .c (.msl 1 1 0 w)∧h=_)=R
  have key:k=2∨k=3∨(k ≠ 2∧k ≠ 3):=by omega
  rcases key with hk | hk | ⟨hk2,hk3⟩
  ·have hv2:=hlim hk
   have e2:(k == 2)=true:=by simp [hk]
   have f2:(k=2)=True:=by simp [hk]
   have e3:(k == 3)=false:=by simp [hk]
   have f3:(k=3)=False:=by simp [hk]
   have hx:=rows_at (w:=w) (S:=S) (i:=v.toNat) (by omega)
   have hd:=hda v.toNat
   have hj0:=joinOF w 0 (dat S v.toNat) hw14 (Nat.two_pow_pos w) hd
   rw [Nat.zero_or] at hj0
   generalize dat S v.toNat=q at *
   refine dcZ Try.func53 ?_
   simp only [go_sem]
   iterate 4 ((try (refine drvZ Try.func53 ?_;simp only [go_sem,e2,f2,rowsD,hx,boolsC_rep,bl_zero]));((with_reducible and_intros)<;>try exact sd);(try first | refine XK.p hce ok26 ?_ | refine XK.gp hce ok26 ?_))
   refine XK.callG [321] hj0 ok38 (hhpG (by simp [HH,upd,hOf,boolsC_ren])) (hbT ()) (fun d h' ⟨_,e⟩=>by subst e;simp) ?_
   rintro _ _ ⟨rfl,rfl⟩ _
   iterate 3 ((try (refine drvZ Try.func53 ?_;simp only [go_sem,boolsC_ren]));((with_reducible and_intros)<;>try exact sd))
   refine Go.loopQ (fun i : Nat => [(1, .c (rowsD w S)), (3, .c (.msl 0 1 0 w)), (4, .c (.ptr 2 0)), (6, .c (.ptr 3 0)), (9, .c (.msl 1 1 0 w)), (10, DI .i64 i)])
    (fun i=>[(0,some (boolsC (bl w (lk ||| snd1 F ks i)))),(1,some (boolsC (bl w (q ||| fst1 F ks i)))),(2,some (Pg.cells ⟨vs,ar,bd⟩)),(3,some (Ex.cells (.mk k v ks)))])
    4096 (fun i=>i≤ks.length) (fun i=>ks.length - i) ?_ 0 (fun j=>if j=0 then some 0 else if j=1 then some 321 else if j=2 then some 1 else if j=3 then some 65 else none) [] _ (Nat.zero_le _) ?_
   ·intro i hi again
    rcases Nat.lt_or_ge i ks.length with hlt | hge
    ·obtain ⟨⟨k',v',ks'⟩,hx⟩:∃ x,ks[i]? = some x:=⟨ks[i],by simp [hlt]⟩
     obtain ⟨hsc,hsd⟩:=hstep i _ hx
     have hih:=ih (.mk k' v' ks') (lk ||| snd1 F ks i) (g2 _ (List.mem_of_getElem? hx)) (hta i)
     have hj:=joinOO w (q ||| fst1 F ks i) (F (.mk k' v' ks')).1 hw14 (Nat.or_lt_two_pow hd (ho i)) (hp1 _)
     refine drvL Try.func53 ?_
     simp only [go_sem,hx,hlt]
     iterate 3 ((try (refine drvZ Try.func53 ?_;simp only [go_sem,hx,hlt]));((with_reducible and_intros)<;>try exact sd))
     refine XK.callG [0] hih ok53 (hhpG (by simp [HH,upd,hOf,boolsC_ren])) (hbT ()) (fun d h' ⟨_,e⟩=>by subst e;simp) ?_ (fun _=>⟨by kernel_rfl,_,_,⟨rfl,rfl⟩,by simp⟩)
     rintro _ _ ⟨rfl,rfl⟩ _
     iterate 2 ((try (refine drvZ Try.func53 ?_;simp only [go_sem,hx,hlt,boolsC_ren]));((with_reducible and_intros)<;>try exact sd))
     refine XK.callG [1,4992] hj ok38 (hhpG (by simp [HH,upd,hOf,boolsC_ren])) (hbT ()) (fun d h' ⟨_,e⟩=>by subst e;simp) ?_ (fun _=>⟨by kernel_rfl,_,_,⟨rfl,rfl⟩,by simp⟩)
     rintro _ _ ⟨rfl,rfl⟩ _
     iterate 4 ((try (refine drvZ Try.func53 ?_;simp only [go_sem,hx,hlt,boolsC_ren]));((with_reducible and_intros)<;>try exact sd))
     refine again (i+1) some [] _ hlt (by omega) ?_
     simp only [go_sem,TmOK,DM,DMs,CM,CMs,forall_eq,exists_eq_left,Mq,HpOK,LowOK,hsc,hsd,rowsD]
     simp [Nat.or_assoc]
     exact ⟨CMs.kf (boolsC_kf _),CMs.kf (boolsC_kf _)⟩
    ·have hn2:¬ i<ks.length:=by omega
     obtain rfl:i=ks.length:=by omega
     refine drvL Try.func53 ?_
     simp only [go_sem,hn2]
     iterate 4 ((try (refine drvZ Try.func53 ?_;simp only [go_sem,hn2,e3,f3]));((with_reducible and_intros)<;>try exact sd))
     refine RetOb.ofQ some [] (.c (.msl 1 1 0 w)) [some (boolsC (bl w (lk ||| snd1 F ks ks.length))),some (boolsC (bl w (fst1 F ks ks.length ||| q)))] ?_ (by rw [← hR,if_pos hk];exact ⟨rfl,rfl⟩) (by simp)
     simp [enumL,DM,DMs,CM,HpOK,LowOK,hOf,upd,hpL,Nat.or_comm]
     exact ⟨CMs.kf (boolsC_kf _),CMs.kf (boolsC_kf _)⟩
   ·simp only [go_sem,TmOK,DM,DMs,CM,CMs,forall_eq,exists_eq_left,Mq,HpOK,LowOK,hf0,hs0,rowsD,boolsC_ren]
    simp
    exact ⟨CMs.kf (boolsC_kf _),CMs.kf (boolsC_kf _)⟩
  ·have hv3:=hlim3 hk
   have e2:(k == 2)=false:=by simp [hk]
   have f2:(k=2)=False:=by simp [hk]
   have e3:(k == 3)=true:=by simp [hk]
   have f3:(k=3)=True:=by simp [hk]
   have hxq:=rows_at (w:=w) (S:=S) (i:=vs.length+v.toNat) (by omega)
   have hd:=hda (vs.length+v.toNat)
   have hi4:((vs.length:Int)+v).toNat=vs.length+v.toNat:=by omega
   generalize dat S (vs.length+v.toNat)=q at *
   refine dcZ Try.func53 ?_
   simp only [go_sem]
   iterate 6 ((try (refine drvZ Try.func53 ?_;simp only [go_sem,e2,f2,boolsC_rep,bl_zero]));((with_reducible and_intros)<;>try exact sd);(try first | refine XK.p hce ok26 ?_ | refine XK.gp hce ok26 ?_))
   refine Go.loopQ (fun i : Nat => [(1, .c (rowsD w S)), (3, .c (.msl 0 1 0 w)), (4, .c (.ptr 2 0)), (6, .c (.ptr 3 0)), (9, .c (.msl 1 1 0 w)), (10, DI .i64 i)])
    (fun i=>[(0,some (boolsC (bl w (lk ||| snd1 F ks i)))),(1,some (boolsC (bl w (0 ||| fst1 F ks i)))),(2,some (Pg.cells ⟨vs,ar,bd⟩)),(3,some (Ex.cells (.mk k v ks)))])
    4096 (fun i=>i≤ks.length) (fun i=>ks.length - i) ?_ 0 (fun j=>if j=0 then some 0 else if j=1 then some 321 else if j=2 then some 1 else if j=3 then some 65 else none) [] _ (Nat.zero_le _) ?_
   ·intro i hi again
    rcases Nat.lt_or_ge i ks.length with hlt | hge
    ·obtain ⟨⟨k',v',ks'⟩,hx⟩:∃ x,ks[i]? = some x:=⟨ks[i],by simp [hlt]⟩
     obtain ⟨hsc,hsd⟩:=hstep i _ hx
     have hih:=ih (.mk k' v' ks') (lk ||| snd1 F ks i) (g2 _ (List.mem_of_getElem? hx)) (hta i)
     have hj:=joinOO w (0 ||| fst1 F ks i) (F (.mk k' v' ks')).1 hw14 (Nat.or_lt_two_pow (Nat.two_pow_pos w) (ho i)) (hp1 _)
     refine drvL Try.func53 ?_
     simp only [go_sem,hx,hlt]
     iterate 3 ((try (refine drvZ Try.func53 ?_;simp only [go_sem,hx,hlt]));((with_reducible and_intros)<;>try exact sd))
     refine XK.callG [0] hih ok53 (hhpG (by simp [HH,upd,hOf,boolsC_ren])) (hbT ()) (fun d h' ⟨_,e⟩=>by subst e;simp) ?_ (fun _=>⟨by kernel_rfl,_,_,⟨rfl,rfl⟩,by simp⟩)
     rintro _ _ ⟨rfl,rfl⟩ _
     iterate 2 ((try (refine drvZ Try.func53 ?_;simp only [go_sem,hx,hlt,boolsC_ren]));((with_reducible and_intros)<;>try exact sd))
     refine XK.callG [1,4992] hj ok38 (hhpG (by simp [HH,upd,hOf,boolsC_ren])) (hbT ()) (fun d h' ⟨_,e⟩=>by subst e;simp) ?_ (fun _=>⟨by kernel_rfl,_,_,⟨rfl,rfl⟩,by simp⟩)
     rintro _ _ ⟨rfl,rfl⟩ _
     iterate 4 ((try (refine drvZ Try.func53 ?_;simp only [go_sem,hx,hlt,boolsC_ren]));((with_reducible and_intros)<;>try exact sd))
     refine again (i+1) some [] _ hlt (by omega) ?_
     simp only [go_sem,TmOK,DM,DMs,CM,CMs,forall_eq,exists_eq_left,Mq,HpOK,LowOK,hsc,hsd,rowsD]
     simp [Nat.or_assoc]
     exact ⟨CMs.kf (boolsC_kf _),CMs.kf (boolsC_kf _)⟩
    ·have hn2:¬ i<ks.length:=by omega
     obtain rfl:i=ks.length:=by omega
     have hj1:=joinOO w (lk ||| snd1 F ks ks.length) (fst1 F ks ks.length) hw14 (hta _) (ho _)
     have hj2:=joinOF w (fst1 F ks ks.length) q hw14 (ho _) hd
     refine drvL Try.func53 ?_
     simp only [go_sem,hn2,Nat.zero_or]
     iterate 2 ((try (refine drvZ Try.func53 ?_;simp only [go_sem,hn2,e3,f3,Nat.zero_or]));((with_reducible and_intros)<;>try exact sd))
     refine XK.callG [0,1] hj1 ok38 (hhpG (by simp [HH,upd,hOf,boolsC_ren])) (hbT ()) (fun d h' ⟨_,e⟩=>by subst e;simp) ?_
     rintro _ _ ⟨rfl,rfl⟩ _
     iterate 4 ((try (refine drvZ Try.func53 ?_;simp only [go_sem,rowsD,hxq,hi4,boolsC_ren]));((with_reducible and_intros)<;>try exact sd))
     refine XK.callG [1] hj2 ok38 (hhpG (by simp [HH,upd,hOf,boolsC_ren])) (hbT ()) (fun d h' ⟨_,e⟩=>by subst e;simp) ?_
     rintro _ _ ⟨rfl,rfl⟩ _
     iterate 4 ((try (refine drvZ Try.func53 ?_;simp only [go_sem,boolsC_ren]));((with_reducible and_intros)<;>try exact sd))
     refine RetOb.ofQ some [] (.c (.msl 1 1 0 w)) [some (boolsC (bl w (lk ||| (snd1 F ks ks.length ||| fst1 F ks ks.length)))),some (boolsC (bl w (fst1 F ks ks.length ||| q)))] ?_ (by rw [← hR,if_neg (by omega),if_pos hk];exact ⟨rfl,rfl⟩) (by simp)
     simp [enumL,DM,DMs,CM,HpOK,LowOK,hOf,upd,hpL,Nat.or_assoc]
     exact ⟨CMs.kf (boolsC_kf _),CMs.kf (boolsC_kf _)⟩
   ·simp only [go_sem,TmOK,DM,DMs,CM,CMs,forall_eq,exists_eq_left,Mq,HpOK,LowOK,hf0,hs0,rowsD,boolsC_ren]
    simp
    exact ⟨CMs.kf (boolsC_kf _),CMs.kf (boolsC_kf _)⟩
  ·have e2:(k == 2)=false:=by simp [hk2]
   have f2:(k=2)=False:=by simp [hk2]
   have e3:(k == 3)=false:=by simp [hk3]
   have f3:(k=3)=False:=by simp [hk3]
   refine dcZ Try.func53 ?_
   simp only [go_sem]
   iterate 6 ((try (refine drvZ Try.func53 ?_;simp only [go_sem,e2,f2,boolsC_rep,bl_zero]));((with_reducible and_intros)<;>try exact sd);(try first | refine XK.p hce ok26 ?_ | refine XK.gp hce ok26 ?_))
   refine Go.loopQ (fun i : Nat => [(1, .c (rowsD w S)), (3, .c (.msl 0 1 0 w)), (4, .c (.ptr 2 0)), (6, .c (.ptr 3 0)), (9, .c (.msl 1 1 0 w)), (10, DI .i64 i)])
    (fun i=>[(0,some (boolsC (bl w (lk ||| snd1 F ks i)))),(1,some (boolsC (bl w (0 ||| fst1 F ks i)))),(2,some (Pg.cells ⟨vs,ar,bd⟩)),(3,some (Ex.cells (.mk k v ks)))])
    4096 (fun i=>i≤ks.length) (fun i=>ks.length - i) ?_ 0 (fun j=>if j=0 then some 0 else if j=1 then some 321 else if j=2 then some 1 else if j=3 then some 65 else none) [] _ (Nat.zero_le _) ?_
   ·intro i hi again
    rcases Nat.lt_or_ge i ks.length with hlt | hge
    ·obtain ⟨⟨k',v',ks'⟩,hx⟩:∃ x,ks[i]? = some x:=⟨ks[i],by simp [hlt]⟩
     obtain ⟨hsc,hsd⟩:=hstep i _ hx
     have hih:=ih (.mk k' v' ks') (lk ||| snd1 F ks i) (g2 _ (List.mem_of_getElem? hx)) (hta i)
     have hj:=joinOO w (0 ||| fst1 F ks i) (F (.mk k' v' ks')).1 hw14 (Nat.or_lt_two_pow (Nat.two_pow_pos w) (ho i)) (hp1 _)
     refine drvL Try.func53 ?_
     simp only [go_sem,hx,hlt]
     iterate 3 ((try (refine drvZ Try.func53 ?_;simp only [go_sem,hx,hlt]));((with_reducible and_intros)<;>try exact sd))
     refine XK.callG [0] hih ok53 (hhpG (by simp [HH,upd,hOf,boolsC_ren])) (hbT ()) (fun d h' ⟨_,e⟩=>by subst e;simp) ?_ (fun _=>⟨by kernel_rfl,_,_,⟨rfl,rfl⟩,by simp⟩)
     rintro _ _ ⟨rfl,rfl⟩ _
     iterate 2 ((try (refine drvZ Try.func53 ?_;simp only [go_sem,hx,hlt,boolsC_ren]));((with_reducible and_intros)<;>try exact sd))
     refine XK.callG [1,4992] hj ok38 (hhpG (by simp [HH,upd,hOf,boolsC_ren])) (hbT ()) (fun d h' ⟨_,e⟩=>by subst e;simp) ?_ (fun _=>⟨by kernel_rfl,_,_,⟨rfl,rfl⟩,by simp⟩)
     rintro _ _ ⟨rfl,rfl⟩ _
     iterate 4 ((try (refine drvZ Try.func53 ?_;simp only [go_sem,hx,hlt,boolsC_ren]));((with_reducible and_intros)<;>try exact sd))
     refine again (i+1) some [] _ hlt (by omega) ?_
     simp only [go_sem,TmOK,DM,DMs,CM,CMs,forall_eq,exists_eq_left,Mq,HpOK,LowOK,hsc,hsd,rowsD]
     simp [Nat.or_assoc]
     exact ⟨CMs.kf (boolsC_kf _),CMs.kf (boolsC_kf _)⟩
    ·have hn2:¬ i<ks.length:=by omega
     obtain rfl:i=ks.length:=by omega
     refine drvL Try.func53 ?_
     simp only [go_sem,hn2]
     iterate 4 ((try (refine drvZ Try.func53 ?_;simp only [go_sem,hn2,e3,f3]));((with_reducible and_intros)<;>try exact sd))
     refine RetOb.ofQ some [] (.c (.msl 1 1 0 w)) [some (boolsC (bl w (lk ||| snd1 F ks ks.length))),some (boolsC (bl w (fst1 F ks ks.length)))] ?_ (by rw [← hR,if_neg hk2,if_neg hk3];exact ⟨rfl,rfl⟩) (by simp)
     simp [enumL,DM,DMs,CM,HpOK,LowOK,hOf,upd,hpL,Nat.zero_or]
     exact ⟨CMs.kf (boolsC_kf _),CMs.kf (boolsC_kf _)⟩
   ·simp only [go_sem,TmOK,DM,DMs,CM,CMs,forall_eq,exists_eq_left,Mq,HpOK,LowOK,hf0,hs0,rowsD,boolsC_ren]
    simp
    exact ⟨CMs.kf (boolsC_kf _),CMs.kf (boolsC_kf _)⟩
def rowsB (w:Nat) (S:List Nat):List (List C):=S.map fun N=>boolsC (bl w N)
theorem rowsB_len (w:Nat) (S:List Nat):(rowsB w S).length=S.length:=by simp [rowsB]
theorem rowsB_at {w:Nat} {S:List Nat} {i:Nat} (h:i<S.length):(rowsB w S)[i]? = some (boolsC (bl w (dat S i))):=by
 unfold rowsB;rw [List.getElem?_map,dat_get h];rfl
theorem rowsB_kf (w:Nat) (S:List Nat):∀ x ∈ rowsB w S,∀ c ∈ x,kf c=true:=fun x hx c hc=>by
 obtain ⟨N,_,rfl⟩:=List.mem_map.1 hx;exact boolsC_kf _ c hc
theorem rowsB_ren (w:Nat) (S:List Nat):∀ (r:Nat→Nat),∀ x ∈ rowsB w S,renCs r x=x:=fun r x hx=>by
 obtain ⟨N,_,rfl⟩:=List.mem_map.1 hx;exact boolsC_ren _ _
theorem rowsB_succ (w:Nat) (S:List Nat) (i x:Nat) (h:S[i]? = some x):rowsB w (S.take (i+1))=rowsB w (S.take i)++[boolsC (bl w x)]:=by
 unfold rowsB;rw [List.take_add_one,h];simp
theorem cm_bools {hT hS:Hp} {r:Nat→Option Nat} {fz:List Nat} {k w N:Nat} (hk:k ∈ fz) (h:hS k=some (some (boolsC (bl w N)))):CM hT r hS fz (boolsD (bl w N)) (.msl k 1 0 w):=by
 simp only [boolsD,CM]
 refine ⟨⟨trivial,trivial,by simp [bl_len]⟩,hk,by rw [h,boolsC_flat],?_,?_⟩
 ·intro x hx
  obtain ⟨b,_,rfl⟩:=List.mem_map.1 hx
  rfl
 ·intro x hx c hc
  obtain ⟨b,_,rfl⟩:=List.mem_map.1 hx
  simp only [List.mem_singleton] at hc
  subst hc;rfl
theorem cm_rows {hT hS:Hp} {r:Nat→Option Nat} {fz:List Nat} {k w:Nat} {S:List Nat} (hk:k ∈ fz) (h:hS k=some (some (rowsC w S))) (hl:S.length=w):CM hT r hS fz (rowsD w S) (.msl k 1 0 w):=by
 simp only [rowsD,CM]
 refine ⟨⟨trivial,trivial,by simp [hl]⟩,hk,by rw [h,rowsC_flat],?_,?_⟩
 ·intro x hx
  obtain ⟨b,_,rfl⟩:=List.mem_map.1 hx
  rfl
 ·intro x hx c hc
  obtain ⟨b,_,rfl⟩:=List.mem_map.1 hx
  simp only [List.mem_singleton] at hc
  subst hc;rfl
theorem frz_rows (w:Nat) (S:List Nat):frzC (rowsB w S)=rowsC w S:=by
 unfold frzC rowsB rowsC
 rw [List.map_map]
 refine List.map_congr_left fun N _=>?_
 simp only [Function.comp,boolsD,boolsC,List.map_map]
 rfl
theorem cms_rows {hT hS:Hp} {r:Nat→Option Nat} {fz:List Nat} {b w:Nat} {S:List Nat} (hl:S.length=w) (hfz:∀ i,i<w→b+i ∈ fz) (h:∀ i row,(rowsB w S)[i]? = some row→hS (b+i)=some (some row)):CMs hT r hS fz (rowsC w S) (famC b w w):=by
 rw [← frz_rows]
 refine CMs.famFz' (by rw [rowsB_len,hl]) (fun i row hi=>⟨hfz i ?_,h i row hi⟩) fun row hr=>?_
 ·have:=(List.getElem?_eq_some_iff.1 hi).1
  rw [rowsB_len,hl] at this;exact this
 ·obtain ⟨N,_,rfl⟩:=List.mem_map.1 hr
  exact ⟨by rw [boolsC_len,bl_len],boolsC_kf _⟩
theorem rowsC_set (w:Nat) (S:List Nat) (i x:Nat):(rowsC w S).set i (boolsD (bl w x))=rowsC w (S.set i x):=by
 unfold rowsC;rw [List.map_set]
theorem fam_row {hp:Hp} {b w i:Nat} {S:List Nat} {row:List C} (hS:S.length≤32) (h:(rowsB w S)[i]? = some row):fam hp b (rowsB w S) (b+i)=some (some row):=by
 have:=(List.getElem?_eq_some_iff.1 h).1
 rw [rowsB_len] at this
 rw [fam_at (by omega),h];rfl
theorem rowsB_set (w:Nat) (S:List Nat) (i x:Nat):(rowsB w S).set i (boolsC (bl w x))=rowsB w (S.set i x):=by
 unfold rowsB;rw [List.map_set]
theorem fam_rowq {hp:Hp} {b w:Nat} {S:List Nat} (j:Nat) (hj:j<S.length) (hl:S.length≤32):fam hp b (rowsB w S) (b+j)=some (some (boolsC (bl w (dat S j)))):=fam_row hl (rowsB_at hj)
theorem up_row1 {hp:Hp} {b w j x B:Nat} {S:List Nat} (hj:j<S.length) (hl:S.length≤32):appUp (fam hp b (rowsB w S)) (upsFrom (rkey [b+j] B) 0 [some (boolsC (bl w x))])=fam hp b (rowsB w (S.set j x)):=by
 simp only [upsFrom,rkey,appUp,List.length_cons,List.length_nil,Nat.zero_lt_one,if_true,List.getD_cons_zero,Option.map_some,boolsC_ren,Nat.zero_add]
 rw [fam_set (by rw [rowsB_len];exact hj) (by rw [rowsB_len];exact hl),rowsB_set]
theorem up_row2 {hp : Hp} {b w j x y k B : Nat} {S : List Nat} (hj : j < S.length) (hl : S.length ≤ 32) (hk : (decide (k < b) || decide (b + 32 ≤ k)) = true) :
 appUp (fam hp b (rowsB w S)) (upsFrom (rkey [b+j,k] B) 0 [some (boolsC (bl w x)),some (boolsC (bl w y))])=fam (upd hp k (some (some (boolsC (bl w y))))) b (rowsB w (S.set j x)):=by
 simp only [upsFrom,rkey,appUp,List.length_cons,List.length_nil,List.getD_cons_zero,List.getD_cons_succ,Option.map_some,boolsC_ren,Nat.zero_add,Nat.reduceAdd,Nat.reduceLT,if_true]
 rw [fam_set (by rw [rowsB_len];exact hj) (by rw [rowsB_len];exact hl),rowsB_set,fam_upd hk]
def mid (U xs:List Nat) (k:Nat):List Nat:=U.take k++xs.drop k
theorem mid_len {U xs:List Nat} (h:U.length=xs.length) {k:Nat} (hk:k≤xs.length):(mid U xs k).length=xs.length:=by
 unfold mid;simp;omega
theorem mid_at {U xs:List Nat} (h:U.length=xs.length) {k:Nat} (hk:k<xs.length):dat (mid U xs k) k=dat xs k:=by
 unfold mid dat
 rw [List.getD_eq_getElem?_getD,List.getD_eq_getElem?_getD,List.getElem?_append_right (by simp;omega)]
 simp [Nat.min_eq_left (show k≤U.length by omega)]
theorem mid_set {U xs:List Nat} (h:U.length=xs.length) {k:Nat} (hk:k<xs.length):(mid U xs k).set k (dat U k)=mid U xs (k+1):=by
 apply List.ext_getElem?
 intro j
 unfold mid dat
 rw [List.getElem?_set]
 by_cases e:k=j
 ·subst e
  rw [if_pos rfl,if_pos (by simp;omega),List.getElem?_append_left (by simp;omega),List.getElem?_take,if_pos (by omega),List.getD_eq_getElem?_getD,List.getElem?_eq_getElem (by omega)];rfl
 ·rw [if_neg e]
  rcases Nat.lt_or_ge j k with hj | hj
  ·rw [List.getElem?_append_left (by simp;omega),List.getElem?_append_left (by simp;omega),List.getElem?_take,List.getElem?_take,if_pos hj,if_pos (by omega)]
  ·rw [List.getElem?_append_right (by simp;omega),List.getElem?_append_right (by simp;omega)]
   simp only [List.length_take,List.getElem?_drop]
   congr 1;omega
theorem mid_zero (U xs:List Nat):mid U xs 0=xs:=by simp [mid]
theorem mid_end {U xs:List Nat} (h:U.length=xs.length):mid U xs xs.length=U:=by
 unfold mid;rw [← h,List.take_length,List.drop_eq_nil_of_le (by omega)];simp
def chg (U xs : List Nat) : Nat → Bool
 | 0=>false
 | k+1 => !decide (dat U k=dat xs k) || chg U xs k
theorem chg_iff (U xs : List Nat) : ∀ k, chg U xs k = false ↔ ∀ j, j < k → dat U j = dat xs j
 | 0=>by simp [chg]
 | k+1=>by
  simp only [chg,Bool.or_eq_false_iff,chg_iff U xs k]
  constructor
  ·rintro ⟨h1,h2⟩ j hj
   by_cases e:j=k
   ·subst e;simpa using h1
   ·exact h2 j (by omega)
  ·intro h
   exact ⟨by simpa using h k (by omega),fun j hj=>h j (by omega)⟩
theorem chg_end {U xs:List Nat} (h:U.length=xs.length):chg U xs xs.length = !decide (U=xs):=by
 have h1:=chg_iff U xs xs.length
 have h2:(∀ j,j<xs.length→dat U j=dat xs j) ↔ U=xs:=by
  constructor
  ·intro hj
   apply List.ext_getElem?
   intro j
   rcases Nat.lt_or_ge j xs.length with hl | hl
   ·rw [dat_get hl,dat_get (show j<U.length by omega),hj j hl]
   ·rw [List.getElem?_eq_none hl,List.getElem?_eq_none (by omega)]
  ·rintro rfl j _;rfl
 rw [h2] at h1
 cases hc:chg U xs xs.length with
 | false=>simp [h1.1 hc]
 | true =>
  have:¬ U=xs:=fun e=>by rw [h1.2 e] at hc;cases hc
  simp [this]
theorem SubH.rows {m : Nat} {r : Nat → Option Nat} {hl : List (Nat × Option (List C))} {hp : Hp} {b b' w : Nat} {S : List Nat} (hS : S.length ≤ 32) (hr : ∀ i, i < S.length → r (b + i) = some (b' + i))
 (hok:HpOK (fam (hOf hl) b (rowsB w S)) r (fam hp b' (rowsB w S)) [] hl) (hlow:LowOK r (fam (hOf hl) b (rowsB w S)) m) (hnd:((hl.filterMap fun p=>p.2.map fun _=>p.1).filterMap r).Nodup)
 (hdis:∀ p ∈ hl,∀ j,r p.1=some j→j<b'∨b' + 32≤j):SubH m r [] (fam (hOf hl) b (rowsB w S)) (fam hp b' (rowsB w S)):=by
 have hl0:=rowsB_len w S
 refine SubH.fam (fun n=>b' + n) (fun i hi=>hr i (by omega)) (fun i j hi hj h=>by omega) (fun i hi=>by simp) (fun i row hi=>fam_row hS hi) (rowsB_kf w S) hok hlow hnd ?_
 intro k j cs hm hj i hi e
 have:=hdis _ hm j hj
 omega
theorem cms_fam {r:Nat→Option Nat} {hp hS:Hp} {b b' w:Nat} {S:List Nat} (hl:S.length=w) (hw:w≤32) (hr:∀ i,i<w→r (b+i)=some (b' + i)):CMs (fam hp b (rowsB w S)) r hS [] (famC b w w) (famC b' w w) :=
 CMs.fam (fun i hi=>hr i hi) fun i hi=>by rw [fam_at (by omega),List.getElem?_eq_getElem (by rw [rowsB_len];omega)];simp
theorem up_copy {hp:Hp} {B w:Nat} {S:List Nat} (hS:S.length=w) (hw14:w≤14) (hb:∀ j,j<64→hp (B+j)=none):appUp hp (upsFrom (rkey [] B) 0 (some (famC 1 w w) :: (rowsB w S).map some))=fam (upd hp B (some (some (famC (B+1) w w)))) (B+1) (rowsB w S):=by
 have h:=appUp_fam (w:=w) (rows:=rowsB w S) hb (by rw [rowsB_len];omega) (rowsB_ren w S)
 rw [rowsB_len,hS] at h
 exact h
theorem copyS {w:Nat} (hw14:w≤14) (S:List Nat) (hS:S.length≤14):DC Try.prog 52 [.c (rowsD w S)] [] (fun r h=>r = .c (.msl 0 1 0 S.length)∧h=some (famC 1 w S.length) :: (rowsB w S).map some):=by
 have hmx:=mx_eq
 generalize hR:(fun (r:D) (h:List (Option (List C)))=>r = .c (.msl 0 1 0 S.length)∧h=_)=R
 refine dcZ Try.func52 ?_
 simp only [go_sem]
 iterate 3 ((try (refine drvZ Try.func52 ?_;simp only [go_sem]));((with_reducible and_intros)<;>try exact sd))
 refine Go.loopH (fun i:Nat=>[(0,.c (rowsD w S)),(3,.c (.msl 64 1 0 i)),(4,DI .i64 i)]) (fun i=>fam (hOf [(64,some (famC 128 w i))]) 128 (rowsB w (S.take i))) 4096 (fun i=>i≤S.length) (fun i=>S.length - i) ?_ 0 (fun j=>if j=64 then some 64 else none) [] _ (Nat.zero_le _) ?_
 ·intro i hi again
  have hcl:=famC_len 128 w i
  rcases Nat.lt_or_ge i S.length with hlt | hge
  ·have hx:=dat_get hlt
   have hbl:=bl_len w (dat S i)
   have hfl:=boolsC_flat (bl w (dat S i))
   have hbc:=boolsC_len (bl w (dat S i))
   rw [hbl] at hbc
   have hrs:=rowsB_succ w S i _ hx
   have hrl:=rowsB_len w (S.take i)
   rw [List.length_take,Nat.min_eq_left hi] at hrl
   generalize dat S i=q at *
   refine drvL Try.func52 ?_
   simp only [go_sem,hlt,rowsD,hx,fam_upd,fam_out]
   iterate 3 ((try (refine drvZ Try.func52 ?_;simp only [go_sem,hlt,rowsD,hx,fam_upd,fam_out,hcl,hbl,hfl,hbc,boolsD]));((with_reducible and_intros)<;>try exact sd))
   refine again (i+1) (fun j=>if j=64 then some 4864 else if j=128+i then some 4736 else some j) [] _ hlt (by omega) ⟨?_,?_⟩
   ·simp only [go_sem,TmOK,DM,DMs,CM,CMs,forall_eq,exists_eq_left,rowsD,boolsD,fam_out]
   ·have hAk:=rowsB_kf w (S.take i)
    rw [hrs]
    generalize rowsB w (S.take i)=A at *
    refine SubH.fam (fun n=>if n=i then 4736 else 128+n) ?_ ?_ ?_ ?_ ?_ ?_ ?_ ?_ ?_
    ·intro n hn
     simp only [List.length_append,List.length_cons,List.length_nil] at hn
     by_cases e:n=i
     ·simp [e];omega
     ·simp [e];omega
    ·intro n n' h1 h2 h3
     simp only [List.length_append,List.length_cons,List.length_nil] at h1 h2 h3
     split at h3<;>split at h3<;>omega
    ·intro n _;simp
    ·intro n row hr
     rcases Nat.lt_or_ge n i with h | h
     ·rw [List.getElem?_append_left (by omega)] at hr
      have hne:n ≠ i:=by omega
      simp only [if_neg hne]
      show fam _ 128 A (128+n)=_
      rw [fam_at (by omega),hr];rfl
     ·have hlt2:=(List.getElem?_eq_some_iff.1 hr).1
      simp only [List.length_append,List.length_cons,List.length_nil] at hlt2
      obtain rfl:n=i:=by omega
      rw [List.getElem?_append_right (by omega),hrl,Nat.sub_self] at hr
      simp only [List.getElem?_cons_zero,Option.some.injEq] at hr
      subst hr
      simp only [if_true]
      show fam _ 128 A 4736=_
      rw [fam_out (by rfl)];rfl
    ·intro x hx c hc
     rcases List.mem_append.1 hx with h | h
     ·exact hAk x h c hc
     ·simp only [List.mem_singleton] at h
      subst h
      exact boolsC_kf _ c hc
    ·refine ⟨⟨by simp,?_⟩,trivial⟩
     simp (decide:=true) only [fam_out,upd_same,famC_succ]
     refine CMs.app (CMs.fam (fun j hj=>?_) fun j hj=>?_) ?_
     ·have h1:128+j ≠ 64:=by omega
      have h2:¬ j=i:=by omega
      simp [h2];omega
     ·rw [fam_at (by omega),List.getElem?_eq_getElem (by simp;omega)];simp
     ·simp only [CMs,CM]
      refine ⟨⟨?_,?_,trivial,trivial,trivial⟩,trivial⟩
      ·have h1:¬ 128+i=64:=by omega
       simp [h1]
      ·rw [fam_at (by omega),List.getElem?_eq_getElem (by simp;omega)];simp
    ·trivial
    ·simp
    ·intro k j cs hm hr i' hi'
     simp only [List.mem_singleton,Prod.mk.injEq] at hm
     obtain ⟨rfl,_⟩:=hm
     simp only [if_true,Option.some.injEq] at hr
     subst hr
     simp only [List.length_append,List.length_cons,List.length_nil] at hi'
     split<;>omega
  ·have hn:¬ i<S.length:=by omega
   obtain rfl:i=S.length:=by omega
   refine drvL Try.func52 ?_
   simp only [go_sem,hn,rowsD,fam_upd,fam_out]
   iterate 3 ((try (refine drvZ Try.func52 ?_;simp only [go_sem,hn,rowsD,fam_upd,fam_out]));((with_reducible and_intros)<;>try exact sd))
   rw [List.take_length]
   have hk:=rowsB_kf w S
   have hrl:=rowsB_len w S
   have hR':=hR
   generalize rowsB w S=A at *
   refine RetOb.of (fun j=>if j=0 then some 64 else some (127+j)) [] (.c (.msl 0 1 0 S.length)) (some (famC 1 w S.length) :: A.map some) ?_ ?_ (by rw [← hR];exact ⟨rfl,rfl⟩) (by simp)
   ·rw [hpL_fam (by omega)]
    refine SubH.fam (fun n=>128+n) ?_ ?_ ?_ ?_ hk ?_ ?_ ?_ ?_
    ·intro n hn
     have h1:¬ 1+n=0:=by omega
     simp only [if_neg h1];congr 1;omega
    ·intro n n' _ _ h;omega
    ·intro n _;simp
    ·intro n row hr
     have:=(List.getElem?_eq_some_iff.1 hr).1
     rw [fam_at (by omega),hr];rfl
    ·refine ⟨⟨by simp,?_⟩,trivial⟩
     simp (decide:=true) only [fam_out,upd_same]
     refine CMs.fam (fun j hj=>?_) fun j hj=>?_
     ·have h1:¬ 1+j=0:=by omega
      simp only [if_neg h1];congr 1;omega
     ·rw [fam_at (by omega),List.getElem?_eq_getElem (by omega)];simp
    ·trivial
    ·simp
    ·intro k j cs hm hr i' hi'
     simp only [List.mem_singleton,Prod.mk.injEq] at hm
     obtain ⟨rfl,_⟩:=hm
     simp only [if_true,Option.some.injEq] at hr
     omega
   ·simp only [DM,CM]
    simp [hpL]
 ·refine ⟨?_,?_⟩
  ·simp only [go_sem,TmOK,DM,DMs,CM,CMs,forall_eq,exists_eq_left,rowsD,boolsD,fam_out]
  ·refine SubH.fam (fun n=>n) ?_ ?_ ?_ ?_ ?_ ?_ ?_ ?_ ?_
   ·intro n hn;simp [rowsB] at hn
   ·intro n n' h1;simp [rowsB] at h1
   ·intro n hn;simp
   ·intro n row hr;simp [rowsB] at hr
   ·intro x hx;simp [rowsB] at hx
   ·refine ⟨⟨by simp,?_⟩,trivial⟩
    simp [upd_same,famC,CMs]
   ·trivial
   ·simp
   ·intro k j cs hm hr i' hi';simp [rowsB] at hi'
end Go.Proofs.Ytbknljofedfpjaa.CtD
