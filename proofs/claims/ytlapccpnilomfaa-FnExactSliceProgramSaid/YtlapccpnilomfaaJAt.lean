/- Contracts of functions of the program, one behind the other, as plain data: what each call returns and which blocks it leaves. -/
import Derived.Test.YtlapccpnilomfaaJFacts
import Derived.Test.YtlapccpnilomfaaJAn
import Derived.Test.YtlapccpnilomfaaJAp
import Derived.Test.YtlapccpnilomfaaJAq
import Derived.Test.YtlapccpnilomfaaJAr
import Derived.Test.YtlapccpnilomfaaJAs
set_option linter.unusedVariables false
set_option linter.unusedSimpArgs false
set_option linter.unusedSectionVars false
set_option maxHeartbeats 16000000
set_option maxRecDepth 100000
namespace Go.Proofs.Ytlapccpnilomfaa.CtD
open Go Go.CT CtF CtR
variable [Yn]
theorem usesS0 (p:Pg) (L:List Bool):DC Try.prog 39 [.agg p.cells,.agg (Ex.cells (.mk 0 0 [])),.c (.msl 0 1 0 L.length)] [some (boolsC L)] (fun r h=>r = .tup []∧h=[some (boolsC L)]):=by
 obtain ⟨vs,ar,bd⟩:=p
 generalize hR:(fun (r:D) (h:List (Option (List C)))=>r = .tup []∧h=[some (boolsC L)])=R
 refine dcZ Try.func39 ?_
 simp only [go_sem,Ex.cellsL,Int.natCast_zero]
 iterate 3 ((try (refine drvZ Try.func39 ?_;simp only [go_sem,Ex.cellsL,Int.natCast_zero]));((with_reducible and_intros)<;>try exact sd))
 refine Go.loop ?_
 have hz:((0:Int)<0)=False:=eq_false (by omega)
 refine drvL Try.func39 ?_
 simp only [go_sem,Ex.cellsL,Int.natCast_zero,hz]
 iterate 2 ((try (refine drvZ Try.func39 ?_;simp only [go_sem,Ex.cellsL,Int.natCast_zero,hz]));((with_reducible and_intros)<;>try exact sd))
 refine RetOb.ofQ some [] (.tup []) [some (boolsC L)] ?_ (by rw [← hR];exact ⟨rfl,rfl⟩) (by simp)
 simp [enumL,DM,DMs,HpOK,LowOK,hOf,upd,hpL]
 exact CMs.kf (boolsC_kf _)
theorem usesE {p : Pg} (hn : p.vars.length + p.arrays.length ≤ 14) {e : Ex} (h : CtR.shape p 5 e = true ∨ e = .mk 0 0 []) (L : List Bool) (hL : L.length = p.vars.length + p.arrays.length) :
 DC Try.prog 39 [.agg p.cells,.agg e.cells,.c (.msl 0 1 0 L.length)] [some (boolsC L)] (fun r h=>r = .tup []∧h=[some (boolsC (usesL p.vars.length 5 e L))]):=by
 rcases h with h | rfl
 ·exact usesS p hn 5 e L h hL
 ·exact usesS0 p L
def needS (nv : Nat) (f : List St1 → List Bool → Bool × List Bool) (L : List Bool) : St1 → Bool × List Bool
 | .mk k t ix v c b e =>
  let y:=if k=1 then (L.getD t.toNat false,L) else if k=2 then (L.getD (nv+t.toNat) false,L) else if k=5 then (true,L) else ((f b L).1 || (f e (f b L).2).1,(f e (f b L).2).2)
  (y.1,if y.1 then usesL nv 5 ix (usesL nv 5 v y.2) else y.2)
def needL (nv : Nat) : Nat → List St1 → List Bool → Bool × List Bool
 | 0,_,L=>(false,L)
 | d+1,l,L=>l.foldl (fun x s=>(x.1 || (needS nv (needL nv d) x.2 s).1,(needS nv (needL nv d) x.2 s).2)) (false,L)
theorem needS_len {nv:Nat} {f:List St1→List Bool→Bool × List Bool} (hf:∀ l L,(f l L).2.length=L.length) (L:List Bool) (s:St1):(needS nv f L s).2.length=L.length:=by
 obtain ⟨k,t,ix,v,c,b,e⟩:=s
 simp only [needS]
 have h1:∀ y:Bool × List Bool,y.2.length=L.length→(if y.1 then usesL nv 5 ix (usesL nv 5 v y.2) else y.2).length=L.length:=fun y h=>by
  split
  ·rw [usesL_len,usesL_len,h]
  ·exact h
 apply h1
 by_cases a1:k=1
 ·rw [if_pos a1]
 rw [if_neg a1]
 by_cases a2:k=2
 ·rw [if_pos a2]
 rw [if_neg a2]
 by_cases a5:k=5
 ·rw [if_pos a5]
 rw [if_neg a5]
 simp only [hf]
theorem needL_len (nv : Nat) : ∀ (d : Nat) (l : List St1) (L : List Bool), (needL nv d l L).2.length = L.length
 | 0,l,L=>rfl
 | d+1,l,L=>by
  have gen:∀ (l:List St1) (x:Bool × List Bool),(l.foldl (fun x s=>(x.1 || (needS nv (needL nv d) x.2 s).1,(needS nv (needL nv d) x.2 s).2)) x).2.length=x.2.length:=fun l=>by
   induction l with
   | nil=>intro x;rfl
   | cons a r ih=>intro x;rw [List.foldl_cons,ih,needS_len (needL_len nv d)]
  exact gen l (false,L)
theorem boolsC_at {L:List Bool} {i:Nat} (h:i<L.length):(boolsC L)[i]? = some (.v (.bool (L.getD i false))):=by
 unfold boolsC
 rw [List.getElem?_map,List.getD_eq_getElem?_getD,List.getElem?_eq_getElem h];rfl
theorem needsS (p:Pg) (hn:p.vars.length+p.arrays.length≤14):∀ (d:Nat) (l:List St1) (L:List Bool),(∀ s ∈ l,stmtOK p d s=true)→lsize d l≤1000→L.length=p.vars.length+p.arrays.length →
 DC Try.prog 18 [.agg p.cells,.c (.isl 11 (St1.cellsL l)),.c (.msl 0 1 0 L.length)] [some (boolsC L)] (fun r h=>r=DB (needL p.vars.length d l L).1∧h=[some (boolsC (needL p.vars.length d l L).2)]):=by
 have hmx:=mx_eq
 intro d
 induction d with
 | zero =>
  intro l L hok hsz hL
  have hnil:l=[]:=by
   cases l with
   | nil=>rfl
   | cons a r=>have:=hok a (by simp);simp [stmtOK] at this
  subst hnil
  obtain ⟨vs,ar,bd⟩:=p
  simp only [needL]
  generalize hR:(fun (r:D) (h:List (Option (List C)))=>r=DB false∧h=[some (boolsC L)])=R
  refine dcZ Try.func18 ?_
  simp only [go_sem,St1.cellsL,Int.natCast_zero]
  iterate 2 ((try (refine drvZ Try.func18 ?_;simp only [go_sem,St1.cellsL,Int.natCast_zero]));((with_reducible and_intros)<;>try exact sd))
  refine Go.loop ?_
  have hz:((0:Int)<0)=False:=eq_false (by omega)
  refine drvL Try.func18 ?_
  simp only [go_sem,St1.cellsL,Int.natCast_zero,hz]
  iterate 2 ((try (refine drvZ Try.func18 ?_;simp only [go_sem,St1.cellsL,Int.natCast_zero,hz]));((with_reducible and_intros)<;>try exact sd))
  refine RetOb.ofQ some [] (DB false) [some (boolsC L)] ?_ (by rw [← hR];exact ⟨rfl,rfl⟩) (by simp)
  simp [enumL,hOf,DM,CM,HpOK,LowOK,upd,hpL]
  exact CMs.kf (boolsC_kf _)
 | succ d ih =>
  intro l L hok hsz hL
  have hsub:=lsize_subs d l
  have hus:=fun e h L hL=>@usesE _ p hn e h L hL
  have hnl:=fun l=>needL_len p.vars.length d l
  obtain ⟨F,hF⟩:∃ F:Nat→Bool × List Bool,∀ i,F i=(l.take i).foldl (fun x s=>(x.1 || (needS p.vars.length (needL p.vars.length d) x.2 s).1,(needS p.vars.length (needL p.vars.length d) x.2 s).2)) (false,L):=⟨_,fun _=>rfl⟩
  have hF0:F 0=(false,L):=by rw [hF];simp
  have hFs:∀ {i:Nat} {s:St1},l[i]? = some s→F (i+1)=((F i).1 || (needS p.vars.length (needL p.vars.length d) (F i).2 s).1,(needS p.vars.length (needL p.vars.length d) (F i).2 s).2):=fun {i s} h=>by
   rw [hF (i+1),List.take_add_one,h,hF i];simp
  have hFe:needL p.vars.length (d+1) l L=F l.length:=by rw [hF,List.take_length];rfl
  have hFl:∀ i,(F i).2.length=L.length:=fun i=>by
   rw [hF]
   have gen:∀ (l:List St1) (x:Bool × List Bool),(l.foldl (fun x s=>(x.1 || (needS p.vars.length (needL p.vars.length d) x.2 s).1,(needS p.vars.length (needL p.vars.length d) x.2 s).2)) x).2.length=x.2.length:=fun l=>by
    induction l with
    | nil=>intro x;rfl
    | cons a r ih=>intro x;rw [List.foldl_cons,ih,needS_len (needL_len _ d)]
   exact gen _ _
  clear hF
  rw [hFe]
  obtain ⟨vs,ar,bd⟩:=p
  have hn:vs.length+ar.length≤14:=hn
  have hL:L.length=vs.length+ar.length:=hL
  simp only at hus hnl hFs ih
  generalize hR:(fun (r:D) (h:List (Option (List C)))=>r=DB (F l.length).1∧h=[some (boolsC (F l.length).2)])=R
  refine dcZ Try.func18 ?_
  simp only [go_sem]
  ((try (refine drvZ Try.func18 ?_;simp only [go_sem]));((with_reducible and_intros)<;>try exact sd))
  refine Go.loopQ (fun i : Nat => [(1, .c (.isl 11 (St1.cellsL l))), (2, .c (.msl 0 1 0 L.length)), (3, .c (.ptr 1 0)), (7, DB (F i).1), (8, DI .i64 i)])
   (fun i=>[(0,some (boolsC (F i).2)),(1,some (Pg.cells ⟨vs,ar,bd⟩))]) 4096 (fun i=>i≤l.length) (fun i=>l.length - i) ?_ 0 some [] _ (Nat.zero_le _) ?_
  ·intro i hi again
   have hFi:=hFl i
   rcases Nat.lt_or_ge i l.length with hlt | hge
   ·obtain ⟨⟨k,t,⟨ik,iv,iks⟩,⟨vk,vv,vks⟩,c,b,e⟩,hx⟩:∃ x,l[i]? = some x:=⟨l[i],by simp [hlt]⟩
    have hsok:=hok _ (List.mem_of_getElem? hx)
    have hex:=exprs_of hsok
    have hbe:=stmtOK_succ hsok
    have hhk:=head_kind hbe.1
    simp only at hhk
    have a1:=tsum_succ (subs d) l i _ hx
    have a2:=tsum_le (subs d) l (i+1)
    simp only [subs,St1.body,St1.els] at a1 a2
    have hs:=hFs hx
    have hFn:=hFl (i+1)
    generalize F i=Fi at *
    obtain ⟨so,Li⟩:=Fi
    simp only at hFi hs
    have hat:=@boolsC_at _ Li
    have key:k=5∨k=1∨k=2∨(k ≠ 5∧k ≠ 1∧k ≠ 2):=by omega
    rcases key with hk | hk | hk | ⟨hk5,hk1,hk2⟩
    ·subst hk
     have hFE:F (i+1)=(true,usesL vs.length 5 (.mk ik iv iks) (usesL vs.length 5 (.mk vk vv vks) Li)):=by rw [hs];simp [needS]
     refine drvL Try.func18 ?_
     simp only [go_sem,hx,hlt]
     iterate 9 ((try (refine drvZ Try.func18 ?_;simp only [go_sem,hx,hlt]));((with_reducible and_intros)<;>try exact sd))
     have u1:=hus _ hex.2 Li (by omega)
     have u2:=hus _ hex.1 (usesL vs.length 5 (.mk vk vv vks) Li) (by rw [usesL_len];omega)
     rw [usesL_len] at u2
     rw [hFi] at u1 u2
     refine XK.callG [0] u1 ok39 (hhp_one (by simp [hOf,upd,boolsC_ren])) (hbT ()) (fun d h' ⟨_,e⟩=>by subst e;simp) ?_ (fun _=>⟨by kernel_rfl,_,_,⟨rfl,rfl⟩,by simp⟩)
     rintro _ _ ⟨rfl,rfl⟩ _
     iterate 3 ((try (refine drvZ Try.func18 ?_;simp only [go_sem,boolsC_ren]));((with_reducible and_intros)<;>try exact sd))
     refine XK.callG [0] u2 ok39 (hhp_one (by simp [hOf,upd,boolsC_ren])) (hbT ()) (fun d h' ⟨_,e⟩=>by subst e;simp) ?_ (fun _=>⟨by kernel_rfl,_,_,⟨rfl,rfl⟩,by simp⟩)
     rintro _ _ ⟨rfl,rfl⟩ _
     cases so<;>(iterate 4 ((try (refine drvZ Try.func18 ?_;simp only [go_sem,boolsC_ren]));((with_reducible and_intros)<;>try exact sd)))
     all_goals
      refine again (i+1) some [] _ hlt (by omega) ?_
      rw [hFE]
      simp only [go_sem,TmOK,DM,DMs,CM,CMs,forall_eq,exists_eq_left,Mq,HpOK,LowOK,List.cons_append,List.nil_append]
      simp
      exact CMs.kf (boolsC_kf _)
    ·subst hk
     have ht:0≤t∧t<(vs.length:Int):=by omega
     have hpos:((vs.length:Int)+t).toNat=vs.length+t.toNat:=by omega
     have hat:=hat (i:=t.toNat) (by omega)
     cases hq:Li.getD t.toNat false with
     | true =>
      rw [hq] at hat
      have hFE:F (i+1)=(true,usesL vs.length 5 (.mk ik iv iks) (usesL vs.length 5 (.mk vk vv vks) Li)):=by rw [hs];simp only [needS,hq,Int.reduceEq,if_true,if_false,Bool.or_true,Bool.or_false,Bool.false_eq_true]
      refine drvL Try.func18 ?_
      simp only [go_sem,hx,hlt]
      iterate 9 ((try (refine drvZ Try.func18 ?_;simp only [go_sem,hx,hlt,hat,hpos]));((with_reducible and_intros)<;>try exact sd))
      have u1:=hus _ hex.2 Li (by omega)
      have u2:=hus _ hex.1 (usesL vs.length 5 (.mk vk vv vks) Li) (by rw [usesL_len];omega)
      rw [usesL_len] at u2
      rw [hFi] at u1 u2
      refine XK.callG [0] u1 ok39 (hhp_one (by simp [hOf,upd,boolsC_ren])) (hbT ()) (fun d h' ⟨_,e⟩=>by subst e;simp) ?_ (fun _=>⟨by kernel_rfl,_,_,⟨rfl,rfl⟩,by simp⟩)
      rintro _ _ ⟨rfl,rfl⟩ _
      iterate 3 ((try (refine drvZ Try.func18 ?_;simp only [go_sem,boolsC_ren]));((with_reducible and_intros)<;>try exact sd))
      refine XK.callG [0] u2 ok39 (hhp_one (by simp [hOf,upd,boolsC_ren])) (hbT ()) (fun d h' ⟨_,e⟩=>by subst e;simp) ?_ (fun _=>⟨by kernel_rfl,_,_,⟨rfl,rfl⟩,by simp⟩)
      rintro _ _ ⟨rfl,rfl⟩ _
      cases so<;>(iterate 4 ((try (refine drvZ Try.func18 ?_;simp only [go_sem,boolsC_ren]));((with_reducible and_intros)<;>try exact sd)))
      all_goals
       refine again (i+1) some [] _ hlt (by omega) ?_
       rw [hFE]
       simp only [go_sem,TmOK,DM,DMs,CM,CMs,forall_eq,exists_eq_left,Mq,HpOK,LowOK,List.cons_append,List.nil_append]
       simp
       exact CMs.kf (boolsC_kf _)
     | false =>
      rw [hq] at hat
      have hFE:F (i+1)=(so,Li):=by rw [hs];simp only [needS,hq,Int.reduceEq,if_true,if_false,Bool.or_true,Bool.or_false,Bool.false_eq_true]
      refine drvL Try.func18 ?_
      simp only [go_sem,hx,hlt]
      cases so<;>(iterate 9 ((try (refine drvZ Try.func18 ?_;simp only [go_sem,hx,hlt,hat,hpos]));((with_reducible and_intros)<;>try exact sd)))
      all_goals
       refine again (i+1) some [] _ hlt (by omega) ?_
       rw [hFE]
       simp only [go_sem,TmOK,DM,DMs,CM,CMs,forall_eq,exists_eq_left,Mq,HpOK,LowOK,List.cons_append,List.nil_append]
       simp
       exact CMs.kf (boolsC_kf _)
    ·subst hk
     have ht:0≤t∧t<(ar.length:Int):=by omega
     have hpos:((vs.length:Int)+t).toNat=vs.length+t.toNat:=by omega
     have hat:=hat (i:=(vs.length+t.toNat)) (by omega)
     cases hq:Li.getD (vs.length+t.toNat) false with
     | true =>
      rw [hq] at hat
      have hFE:F (i+1)=(true,usesL vs.length 5 (.mk ik iv iks) (usesL vs.length 5 (.mk vk vv vks) Li)):=by rw [hs];simp only [needS,hq,Int.reduceEq,if_true,if_false,Bool.or_true,Bool.or_false,Bool.false_eq_true]
      refine drvL Try.func18 ?_
      simp only [go_sem,hx,hlt]
      iterate 9 ((try (refine drvZ Try.func18 ?_;simp only [go_sem,hx,hlt,hat,hpos]));((with_reducible and_intros)<;>try exact sd))
      have u1:=hus _ hex.2 Li (by omega)
      have u2:=hus _ hex.1 (usesL vs.length 5 (.mk vk vv vks) Li) (by rw [usesL_len];omega)
      rw [usesL_len] at u2
      rw [hFi] at u1 u2
      refine XK.callG [0] u1 ok39 (hhp_one (by simp [hOf,upd,boolsC_ren])) (hbT ()) (fun d h' ⟨_,e⟩=>by subst e;simp) ?_ (fun _=>⟨by kernel_rfl,_,_,⟨rfl,rfl⟩,by simp⟩)
      rintro _ _ ⟨rfl,rfl⟩ _
      iterate 3 ((try (refine drvZ Try.func18 ?_;simp only [go_sem,boolsC_ren]));((with_reducible and_intros)<;>try exact sd))
      refine XK.callG [0] u2 ok39 (hhp_one (by simp [hOf,upd,boolsC_ren])) (hbT ()) (fun d h' ⟨_,e⟩=>by subst e;simp) ?_ (fun _=>⟨by kernel_rfl,_,_,⟨rfl,rfl⟩,by simp⟩)
      rintro _ _ ⟨rfl,rfl⟩ _
      cases so<;>(iterate 4 ((try (refine drvZ Try.func18 ?_;simp only [go_sem,boolsC_ren]));((with_reducible and_intros)<;>try exact sd)))
      all_goals
       refine again (i+1) some [] _ hlt (by omega) ?_
       rw [hFE]
       simp only [go_sem,TmOK,DM,DMs,CM,CMs,forall_eq,exists_eq_left,Mq,HpOK,LowOK,List.cons_append,List.nil_append]
       simp
       exact CMs.kf (boolsC_kf _)
     | false =>
      rw [hq] at hat
      have hFE:F (i+1)=(so,Li):=by rw [hs];simp only [needS,hq,Int.reduceEq,if_true,if_false,Bool.or_true,Bool.or_false,Bool.false_eq_true]
      refine drvL Try.func18 ?_
      simp only [go_sem,hx,hlt]
      cases so<;>(iterate 9 ((try (refine drvZ Try.func18 ?_;simp only [go_sem,hx,hlt,hat,hpos]));((with_reducible and_intros)<;>try exact sd)))
      all_goals
       refine again (i+1) some [] _ hlt (by omega) ?_
       rw [hFE]
       simp only [go_sem,TmOK,DM,DMs,CM,CMs,forall_eq,exists_eq_left,Mq,HpOK,LowOK,List.cons_append,List.nil_append]
       simp
       exact CMs.kf (boolsC_kf _)
    ·have e5:(k == 5)=false:=by simp [hk5]
     have e1:(k == 1)=false:=by simp [hk1]
     have e2:(k == 2)=false:=by simp [hk2]
     have ihb:=ih b Li hbe.2.1 (by omega) (by omega)
     have hn1:=hnl b Li
     have hnd:needS vs.length (needL vs.length d) Li (.mk k t (.mk ik iv iks) (.mk vk vv vks) c b e)=((needL vs.length d b Li).1 || (needL vs.length d e (needL vs.length d b Li).2).1,if ((needL vs.length d b Li).1 || (needL vs.length d e (needL vs.length d b Li).2).1) then usesL vs.length 5 (.mk ik iv iks) (usesL vs.length 5 (.mk vk vv vks) (needL vs.length d e (needL vs.length d b Li).2).2) else (needL vs.length d e (needL vs.length d b Li).2).2):=by simp [needS,hk5,hk1,hk2]
     rw [hnd] at hs
     generalize needL vs.length d b Li=y1 at *
     obtain ⟨yb,L1⟩:=y1
     simp only at hn1 hs ihb
     have ihe:=ih e L1 hbe.2.2 (by omega) (by omega)
     have hn2:=hnl e L1
     generalize needL vs.length d e L1=y2 at *
     obtain ⟨ye,L2⟩:=y2
     simp only at hn2 hs ihe
     rw [hFi] at ihb
     rw [hn1,hFi] at ihe
     have hL2:L2.length=L.length:=by omega
     refine drvL Try.func18 ?_
     simp only [go_sem,hx,hlt,e5,e1,e2,hk5,hk1,hk2]
     iterate 8 ((try (refine drvZ Try.func18 ?_;simp only [go_sem,hx,hlt,e5,e1,e2,hk5,hk1,hk2]));((with_reducible and_intros)<;>try exact sd))
     refine XK.callG [0] ihb ok18 (hhp_one (by simp [hOf,upd,boolsC_ren])) (hbT ()) (fun d h' ⟨_,e⟩=>by subst e;simp) ?_ (fun _=>⟨by kernel_rfl,_,_,⟨rfl,rfl⟩,by simp⟩)
     rintro _ _ ⟨rfl,rfl⟩ _
     iterate 3 ((try (refine drvZ Try.func18 ?_;simp only [go_sem,boolsC_ren]));((with_reducible and_intros)<;>try exact sd))
     refine XK.callG [0] ihe ok18 (hhp_one (by simp [hOf,upd,boolsC_ren])) (hbT ()) (fun d h' ⟨_,e⟩=>by subst e;simp) ?_ (fun _=>⟨by kernel_rfl,_,_,⟨rfl,rfl⟩,by simp⟩)
     rintro _ _ ⟨rfl,rfl⟩ _
     by_cases hor:(yb || ye)=true
     ·have hFE:F (i+1)=(true,usesL vs.length 5 (.mk ik iv iks) (usesL vs.length 5 (.mk vk vv vks) L2)):=by rw [hs];simp [hor]
      have hc:yb=true∨(yb=false∧ye=true):=by cases yb<;>simp_all
      rcases hc with rfl | ⟨rfl,rfl⟩
      all_goals
       iterate 4 ((try (refine drvZ Try.func18 ?_;simp only [go_sem,boolsC_ren]));((with_reducible and_intros)<;>try exact sd))
       have u1:=hus _ hex.2 L2 (by omega)
       have u2:=hus _ hex.1 (usesL vs.length 5 (.mk vk vv vks) L2) (by rw [usesL_len];omega)
       rw [usesL_len] at u2
       rw [hL2] at u1 u2
       refine XK.callG [0] u1 ok39 (hhp_one (by simp [hOf,upd,boolsC_ren])) (hbT ()) (fun d h' ⟨_,e⟩=>by subst e;simp) ?_ (fun _=>⟨by kernel_rfl,_,_,⟨rfl,rfl⟩,by simp⟩)
       rintro _ _ ⟨rfl,rfl⟩ _
       iterate 3 ((try (refine drvZ Try.func18 ?_;simp only [go_sem,boolsC_ren]));((with_reducible and_intros)<;>try exact sd))
       refine XK.callG [0] u2 ok39 (hhp_one (by simp [hOf,upd,boolsC_ren])) (hbT ()) (fun d h' ⟨_,e⟩=>by subst e;simp) ?_ (fun _=>⟨by kernel_rfl,_,_,⟨rfl,rfl⟩,by simp⟩)
       rintro _ _ ⟨rfl,rfl⟩ _
       cases so<;>(iterate 4 ((try (refine drvZ Try.func18 ?_;simp only [go_sem,boolsC_ren]));((with_reducible and_intros)<;>try exact sd)))
       all_goals
        refine again (i+1) some [] _ hlt (by omega) ?_
        rw [hFE]
        simp only [go_sem,TmOK,DM,DMs,CM,CMs,forall_eq,exists_eq_left,Mq,HpOK,LowOK,List.cons_append,List.nil_append]
        simp
        exact CMs.kf (boolsC_kf _)
     ·have hc:yb=false∧ye=false:=by cases yb<;>cases ye<;>simp_all
      obtain ⟨rfl,rfl⟩:=hc
      have hFE:F (i+1)=(so,L2):=by rw [hs];simp
      cases so<;>(iterate 6 ((try (refine drvZ Try.func18 ?_;simp only [go_sem,boolsC_ren]));((with_reducible and_intros)<;>try exact sd)))
      all_goals
       refine again (i+1) some [] _ hlt (by omega) ?_
       rw [hFE]
       simp only [go_sem,TmOK,DM,DMs,CM,CMs,forall_eq,exists_eq_left,Mq,HpOK,LowOK,List.cons_append,List.nil_append]
       simp
       exact CMs.kf (boolsC_kf _)
   ·have hn2:¬ i<l.length:=by omega
    obtain rfl:i=l.length:=by omega
    generalize F l.length=Fe at *
    refine drvL Try.func18 ?_
    simp only [go_sem,hn2]
    iterate 2 ((try (refine drvZ Try.func18 ?_;simp only [go_sem,hn2]));((with_reducible and_intros)<;>try exact sd))
    refine RetOb.ofQ some [] (DB Fe.1) [some (boolsC Fe.2)] ?_ (by rw [← hR];exact ⟨rfl,rfl⟩) (by simp)
    simp [enumL,DM,DMs,CM,HpOK,LowOK,hOf,upd]
    exact CMs.kf (boolsC_kf _)
  ·simp only [go_sem,TmOK,DM,DMs,CM,CMs,forall_eq,exists_eq_left,Mq,HpOK,LowOK,hF0]
   simp
   exact CMs.kf (boolsC_kf _)
end Go.Proofs.Ytlapccpnilomfaa.CtD
namespace Go.Proofs.Ytlapccpnilomfaa.CtF
end Go.Proofs.Ytlapccpnilomfaa.CtF
namespace Go.Proofs.Ytlapccpnilomfaa.CtR
end Go.Proofs.Ytlapccpnilomfaa.CtR
namespace Go.Proofs.Ytlapccpnilomfaa.CtD
open Go Go.CT CtF CtR
variable [Yn]
def jnA (L M : List Bool) : Nat → Bool × List Bool
 | 0=>(false,L)
 | i+1=>if M.getD i false && !(jnA L M i).2.getD i false then (true,(jnA L M i).2.set i true) else jnA L M i
theorem jnA_len (L M : List Bool) : ∀ i, (jnA L M i).2.length = L.length
 | 0=>rfl
 | i+1=>by
  rw [jnA]
  split
  ·simp [jnA_len L M i]
  ·exact jnA_len L M i
theorem jnA_hi (L M : List Bool) : ∀ i j, i ≤ j → (jnA L M i).2.getD j false = L.getD j false
 | 0,j,_=>rfl
 | i+1,j,h=>by
  rw [jnA]
  split
  ·rw [← jnA_hi L M i j (by omega)]
   simp only [List.getD_eq_getElem?_getD]
   rw [List.getElem?_set_ne (by omega)]
  ·exact jnA_hi L M i j (by omega)
theorem jnA_iff (L M : List Bool) : ∀ i, (jnA L M i).1 = true ↔ ∃ j, j < i ∧ M.getD j false = true ∧ L.getD j false = false
 | 0=>by simp [jnA]
 | i+1=>by
  have h:=jnA_iff L M i
  have h2:=jnA_hi L M i i (Nat.le_refl _)
  rw [jnA,h2]
  cases hm:M.getD i false with
  | false =>
   simp only [Bool.false_and,Bool.false_eq_true,if_false]
   rw [h]
   constructor
   ·rintro ⟨j,a,b,c⟩;exact ⟨j,by omega,b,c⟩
   ·rintro ⟨j,a,b,c⟩
    refine ⟨j,?_,b,c⟩
    rcases Nat.lt_or_eq_of_le (Nat.le_of_lt_succ a) with h | rfl
    ·exact h
    ·rw [hm] at b;cases b
  | true =>
   cases hl:L.getD i false with
   | true =>
    simp only [Bool.true_and,Bool.not_true,Bool.false_eq_true,if_false]
    rw [h]
    constructor
    ·rintro ⟨j,a,b,c⟩;exact ⟨j,by omega,b,c⟩
    ·rintro ⟨j,a,b,c⟩
     refine ⟨j,?_,b,c⟩
     rcases Nat.lt_or_eq_of_le (Nat.le_of_lt_succ a) with h | rfl
     ·exact h
     ·rw [hl] at c;cases c
   | false =>
    simp only [Bool.true_and,Bool.not_false,if_true,true_iff]
    exact ⟨i,by omega,hm,hl⟩
theorem joinS (L M : List Bool) (hl : L.length ≤ 1000) (hM : M.length = L.length) :
 DC Try.prog 19 [.c (.msl 0 1 0 L.length),.c (.msl 1 1 0 L.length)] [some (boolsC L),some (boolsC M)] (fun r h=>r=DB (jnA L M L.length).1∧h=[some (boolsC (jnA L M L.length).2),some (boolsC M)]):=by
 have hmx:=mx_eq
 have hfl:=jnA_len L M
 generalize hR:(fun (r:D) (h:List (Option (List C)))=>r=DB (jnA L M L.length).1∧h=[some (boolsC (jnA L M L.length).2),some (boolsC M)])=R
 refine dcZ Try.func19 ?_
 simp only [go_sem]
 ((try (refine drvZ Try.func19 ?_;simp only [go_sem]));((with_reducible and_intros)<;>try exact sd))
 refine Go.loopQ (fun i : Nat => [(0, .c (.msl 0 1 0 L.length)), (1, .c (.msl 1 1 0 L.length)), (5, DB (jnA L M i).1), (6, DI .i64 i)])
  (fun i=>[(0,some (boolsC (jnA L M i).2)),(1,some (boolsC M))]) 4096 (fun i=>i≤L.length) (fun i=>L.length - i) ?_ 0 some [] _ (Nat.zero_le _) ?_
 ·intro i hi again
  have hFi:=hfl i
  rcases Nat.lt_or_ge i L.length with hlt | hge
  ·have a1:=@boolsC_at _ M i (by omega)
   have a2:=@boolsC_at _ (jnA L M i).2 i (by omega)
   have hs:jnA L M (i+1)=if M.getD i false && !(jnA L M i).2.getD i false then (true,(jnA L M i).2.set i true) else jnA L M i:=rfl
   have hbl:=boolsC_len (jnA L M i).2
   rw [hFi] at hbl
   generalize jnA L M i=Fi at *
   obtain ⟨c,Li⟩:=Fi
   simp only at hFi hs a2 hbl
   cases hm:M.getD i false with
   | false =>
    rw [hm] at a1 hs
    simp only [Bool.false_and,Bool.false_eq_true,if_false] at hs
    refine drvL Try.func19 ?_
    simp only [go_sem,hlt,a1,a2]
    iterate 4 ((try (refine drvZ Try.func19 ?_;simp only [go_sem,hlt,a1,a2]));((with_reducible and_intros)<;>try exact sd))
    refine again (i+1) some [] _ hlt (by omega) ?_
    rw [hs]
    simp only [go_sem,TmOK,DM,DMs,CM,CMs,forall_eq,exists_eq_left,Mq,HpOK,LowOK]
    simp
    exact ⟨CMs.kf (boolsC_kf _),CMs.kf (boolsC_kf _)⟩
   | true =>
    rw [hm] at a1 hs
    cases hq:Li.getD i false with
    | true =>
     rw [hq] at a2 hs
     simp only [Bool.true_and,Bool.not_true,Bool.false_eq_true,if_false] at hs
     refine drvL Try.func19 ?_
     simp only [go_sem,hlt,a1,a2]
     iterate 4 ((try (refine drvZ Try.func19 ?_;simp only [go_sem,hlt,a1,a2]));((with_reducible and_intros)<;>try exact sd))
     refine again (i+1) some [] _ hlt (by omega) ?_
     rw [hs]
     simp only [go_sem,TmOK,DM,DMs,CM,CMs,forall_eq,exists_eq_left,Mq,HpOK,LowOK]
     simp
     exact ⟨CMs.kf (boolsC_kf _),CMs.kf (boolsC_kf _)⟩
    | false =>
     rw [hq] at a2 hs
     simp only [Bool.true_and,Bool.not_false,if_true] at hs
     refine drvL Try.func19 ?_
     simp only [go_sem,hlt,a1,a2]
     iterate 5 ((try (refine drvZ Try.func19 ?_;simp only [go_sem,hlt,a1,a2,boolsC_set,hbl]));((with_reducible and_intros)<;>try exact sd))
     refine again (i+1) some [] _ hlt (by omega) ?_
     rw [hs]
     simp only [go_sem,TmOK,DM,DMs,CM,CMs,forall_eq,exists_eq_left,Mq,HpOK,LowOK]
     simp
     exact ⟨CMs.kf (boolsC_kf _),CMs.kf (boolsC_kf _)⟩
  ·have hn2:¬ i<L.length:=by omega
   obtain rfl:i=L.length:=by omega
   refine drvL Try.func19 ?_
   simp only [go_sem,hn2]
   iterate 2 ((try (refine drvZ Try.func19 ?_;simp only [go_sem,hn2]));((with_reducible and_intros)<;>try exact sd))
   refine RetOb.ofQ some [] (DB (jnA L M L.length).1) [some (boolsC (jnA L M L.length).2),some (boolsC M)] ?_ (by rw [← hR];exact ⟨rfl,rfl⟩) (by simp)
   simp [enumL,DM,DMs,CM,HpOK,LowOK,hOf,upd]
   exact ⟨CMs.kf (boolsC_kf _),CMs.kf (boolsC_kf _)⟩
 ·simp only [go_sem,TmOK,DM,DMs,CM,CMs,forall_eq,exists_eq_left,Mq,HpOK,LowOK,jnA]
  simp
  exact ⟨CMs.kf (boolsC_kf _),CMs.kf (boolsC_kf _)⟩
end Go.Proofs.Ytlapccpnilomfaa.CtD
namespace Go.Proofs.Ytlapccpnilomfaa.CtF
end Go.Proofs.Ytlapccpnilomfaa.CtF
namespace Go.Proofs.Ytlapccpnilomfaa.CtR
end Go.Proofs.Ytlapccpnilomfaa.CtR
namespace Go.Proofs.Ytlapccpnilomfaa.CtD
open Go Go.CT CtF CtR
variable [Yn]
theorem SmE_shape {p : Pg} : ∀ (d : Nat) (e : Ex), CtR.shape p d e = true → SmE e
 | 0,e,h=>by simp [CtR.shape] at h
 | d+1,.mk k v ks,h=>by
  obtain ⟨g1,g2,g3⟩:=shape_succ h
  exact .mk k v ks (fits_len g1).1 fun x hx=>SmE_shape d x (g2 x hx)
theorem SmE_of {p:Pg} {e:Ex} (h:CtR.shape p 5 e=true∨e = .mk 0 0 []):SmE e:=by
 rcases h with h | rfl
 ·exact SmE_shape 5 e h
 ·exact .mk 0 0 [] (by simp) (fun x h=>by simp at h)
theorem head_leaf {p:Pg} {k t:Int} {ix v:Ex} {c:Int} {b e:List St1} (h:headOK p k t ix v c b.length e.length=true) (hk:k=5∨k=1∨k=2):b=[]∧e=[]:=by
 have g:b.length=0∧e.length=0:=by
  unfold headOK parts blk at h
  rcases hk with rfl | rfl | rfl<;>simp at h<;>grind
 exact ⟨List.eq_nil_of_length_eq_zero g.1,List.eq_nil_of_length_eq_zero g.2⟩
theorem head_blk {p:Pg} {k t:Int} {ix v:Ex} {c:Int} {bn en:Nat} (h:headOK p k t ix v c bn en=true) (h5:k ≠ 5) (h1:k ≠ 1) (h2:k ≠ 2):t=0:=by
 have hk:=head_kind h
 have:k=3∨k=4:=by omega
 unfold headOK parts blk at h
 rcases this with rfl | rfl<;>simp at h<;>grind
theorem cutL_nil (q:Nat→Bool) (nv d:Nat):cutL q nv d []=[]:=by cases d<;>simp [cutL]
theorem bools_at {L:List Bool} {i:Nat} (h:i<L.length):L[i]? = some (L.getD i false):=by
 rw [List.getD_eq_getElem?_getD,List.getElem?_eq_getElem h];rfl
theorem cutSp (p:Pg) (hn:p.vars.length+p.arrays.length≤14) (hv:1≤p.vars.length) (L:List Bool) (hL:L.length=p.vars.length+p.arrays.length):∀ (d:Nat) (l:List St1),(∀ s ∈ l,stmtOK p d s=true)→lsize d l≤1000 →
 DC Try.prog 20 [.agg p.cells,.c (.isl 11 (St1.cellsL l)),.c (boolsD L)] [] (fun r h=>r = .c (.isl 11 (St1.cellsL (cutL (fun i=>L.getD i false) p.vars.length d l)))∧h=[]):=by
 have hmx:=mx_eq
 intro d
 induction d with
 | zero =>
  intro l hok hsz
  have hnil:l=[]:=by
   cases l with
   | nil=>rfl
   | cons a r=>have:=hok a (by simp);simp [stmtOK] at this
  subst hnil
  obtain ⟨vs,ar,bd⟩:=p
  refine dcZ Try.func20 ?_
  simp only [go_sem,St1.cellsL,Int.natCast_zero]
  iterate 2 ((try (refine drvZ Try.func20 ?_;simp only [go_sem,St1.cellsL,Int.natCast_zero]));((with_reducible and_intros)<;>try exact sd))
  refine Go.loop ?_
  have hz:((0:Int)<0)=False:=eq_false (by omega)
  refine drvL Try.func20 ?_
  simp only [go_sem,St1.cellsL,Int.natCast_zero,hz]
  iterate 2 ((try (refine drvZ Try.func20 ?_;simp only [go_sem,St1.cellsL,Int.natCast_zero,hz]));((with_reducible and_intros)<;>try exact sd))
  refine RetOb.ofQ (fun j=>none) [128] (.c (.isl 11 [])) [] ?_ ⟨by simp [cutL,St1.cellsL],rfl⟩ (by simp)
  simp [enumL,hOf,DM,DMs,CM,HpOK,LowOK,upd]
 | succ d ih =>
  intro l hok hsz
  have hsub:=lsize_subs d l
  obtain ⟨q,hq⟩:∃ q:Nat→Bool,q=fun i=>L.getD i false:=⟨_,rfl⟩
  have hqe:∀ i,L.getD i false=q i:=fun i=>by rw [hq]
  rw [← hq] at ih ⊢
  have hcl:∀ {i:Nat} {s:St1},l[i]? = some s→cutL q p.vars.length (d+1) (l.take (i+1))=cutL q p.vars.length (d+1) (l.take i)++(cutS q p.vars.length (cutL q p.vars.length d) s).toList:=fun {i s} h=>by
   simp only [cutL];rw [List.take_add_one,h,List.filterMap_append]
   cases h2:cutS q p.vars.length (cutL q p.vars.length d) s<;>simp [List.filterMap_cons,h2]
  have hcll:∀ i,(cutL q p.vars.length (d+1) (l.take i)).length≤i:=fun i=>by
   simp only [cutL];exact Nat.le_trans (List.length_filterMap_le _ _) (by simp;omega)
  have hcn:=cutL_nil q p.vars.length d
  obtain ⟨vs,ar,bd⟩:=p
  have hn:vs.length+ar.length≤14:=hn
  have hv:1≤vs.length:=hv
  have hL:L.length=vs.length+ar.length:=hL
  simp only at hcl hcll hcn ih
  generalize hR:(fun (r:D) (h:List (Option (List C)))=>r = .c (.isl 11 (St1.cellsL (cutL q vs.length (d+1) l)))∧h=[])=R
  have hbD:boolsD L = .isl 1 (L.map fun b=>[BC b]):=rfl
  rw [hbD] at ih ⊢
  refine dcZ Try.func20 ?_
  simp only [go_sem]
  iterate 2 ((try (refine drvZ Try.func20 ?_;simp only [go_sem]));((with_reducible and_intros)<;>try exact sd))
  refine Go.loopQ (fun i : Nat => [(1, .c (.isl 11 (St1.cellsL l))), (2, .c (.isl 1 (L.map fun b => [BC b]))), (3, .c (.ptr 0 0)), (7, .c (.msl 67 11 0 (cutL q vs.length (d + 1) (l.take i)).length)), (8, DI .i64 i)])
   (fun i=>[(0,some (Pg.cells ⟨vs,ar,bd⟩)),(67,some (stC (cutL q vs.length (d+1) (l.take i))))])
   4096 (fun i=>i≤l.length) (fun i=>l.length - i) ?_ 0 (fun j=>if j=67 then some 128 else some j) [] _ (Nat.zero_le _) ?_
  ·intro i hi again
   have hli:=hcll i
   rcases Nat.lt_or_ge i l.length with hlt | hge
   ·obtain ⟨⟨k,t,⟨ik,iv,iks⟩,⟨vk,vv,vks⟩,c,b,e⟩,hx⟩:∃ x,l[i]? = some x:=⟨l[i],by simp [hlt]⟩
    have hsok:=hok _ (List.mem_of_getElem? hx)
    have hex:=exprs_of hsok
    have hbe:=stmtOK_succ hsok
    have hhk:=head_kind hbe.1
    have hlf:=head_leaf hbe.1
    simp only at hhk
    have a1:=tsum_succ (subs d) l i _ hx
    have a2:=tsum_le (subs d) l (i+1)
    simp only [subs,St1.body,St1.els] at a1 a2
    have ihb:=ih b hbe.2.1 (by omega)
    have ihe:=ih e hbe.2.2 (by omega)
    have hci:=hcl hx
    have hel:=stC_len (cutL q vs.length (d+1) (l.take i))
    generalize hCi:cutL q vs.length (d+1) (l.take i)=Ci at *
    have key:k=5∨k=1∨k=2∨(k ≠ 5∧k ≠ 1∧k ≠ 2):=by omega
    rcases key with hk | hk | hk | ⟨hk5,hk1,hk2⟩
    ·subst hk
     obtain ⟨rfl,rfl⟩:=hlf (by simp)
     rw [hcn] at ihb ihe
     have hat:=@bools_at _ L t.toNat (by omega)
     have hcut:cutS q vs.length (cutL q vs.length d) (.mk 5 t (.mk ik iv iks) (.mk vk vv vks) c [] [])=some (.mk 5 t (.mk ik iv iks) (.mk vk vv vks) c [] []):=by simp [cutS]
     rw [hcut,Option.toList_some] at hci
     refine drvL Try.func20 ?_
     simp only [go_sem,hx,hlt]
     iterate 2 ((try (refine drvZ Try.func20 ?_;simp only [go_sem,hx,hlt]));((with_reducible and_intros)<;>try exact sd))
     refine XK.plain (l2CopyExpr _ (SmE_of hex.1)) ok40 ?_ (hbT ())
     iterate 2 ((try (refine drvZ Try.func20 ?_;simp only [go_sem,hx,hlt]));((with_reducible and_intros)<;>try exact sd))
     refine XK.plain (l2CopyExpr _ (SmE_of hex.2)) ok40 ?_ (hbT ())
     iterate 2 ((try (refine drvZ Try.func20 ?_;simp only [go_sem,hx,hlt]));((with_reducible and_intros)<;>try exact sd))
     refine XK.plain ihb ok20 ?_ (hbT ()) (fun _=>by kernel_rfl)
     iterate 2 ((try (refine drvZ Try.func20 ?_;simp only [go_sem,hx,hlt]));((with_reducible and_intros)<;>try exact sd))
     refine XK.plain ihe ok20 ?_ (hbT ()) (fun _=>by kernel_rfl)
     iterate 9 ((try (refine drvZ Try.func20 ?_;simp only [go_sem,St1.cellsL,Int.natCast_zero,Int.reduceLT,Int.lt_irrefl,hx,hlt,hel,hat]));((with_reducible and_intros)<;>try exact sd))
     refine again (i+1) (fun j=>if j=67 then some 8896 else some j) [] _ hlt (by omega) ?_
     simp only [go_sem,TmOK,DM,DMs,CM,CMs,forall_eq,exists_eq_left,Mq,HpOK,LowOK,List.cons_append,List.nil_append,hci,stC_snoc,List.length_append]
     simp
     exact CMs.kf (kf_app (stC_kf _) (by simp [kf]))
    ·subst hk
     obtain ⟨rfl,rfl⟩:=hlf (by simp)
     rw [hcn] at ihb ihe
     have ht:0≤t∧t<(vs.length:Int):=by omega
     have hpos:((vs.length:Int)+t).toNat=vs.length+t.toNat:=by omega
     have hat:=@bools_at _ L t.toNat (by omega)
     have hat2:=@bools_at _ L t.toNat (by omega)
     rw [hqe] at hat
     cases hqq:q t.toNat with
     | true =>
      rw [hqq] at hat
      have hcut:cutS q vs.length (cutL q vs.length d) (.mk 1 t (.mk ik iv iks) (.mk vk vv vks) c [] [])=some (.mk 1 t (.mk ik iv iks) (.mk vk vv vks) c [] []):=by simp [cutS,hqq]
      rw [hcut,Option.toList_some] at hci
      refine drvL Try.func20 ?_
      simp only [go_sem,hx,hlt]
      iterate 2 ((try (refine drvZ Try.func20 ?_;simp only [go_sem,hx,hlt]));((with_reducible and_intros)<;>try exact sd))
      refine XK.plain (l2CopyExpr _ (SmE_of hex.1)) ok40 ?_ (hbT ())
      iterate 2 ((try (refine drvZ Try.func20 ?_;simp only [go_sem,hx,hlt]));((with_reducible and_intros)<;>try exact sd))
      refine XK.plain (l2CopyExpr _ (SmE_of hex.2)) ok40 ?_ (hbT ())
      iterate 2 ((try (refine drvZ Try.func20 ?_;simp only [go_sem,hx,hlt]));((with_reducible and_intros)<;>try exact sd))
      refine XK.plain ihb ok20 ?_ (hbT ()) (fun _=>by kernel_rfl)
      iterate 2 ((try (refine drvZ Try.func20 ?_;simp only [go_sem,hx,hlt]));((with_reducible and_intros)<;>try exact sd))
      refine XK.plain ihe ok20 ?_ (hbT ()) (fun _=>by kernel_rfl)
      iterate 9 ((try (refine drvZ Try.func20 ?_;simp only [go_sem,St1.cellsL,Int.natCast_zero,Int.reduceLT,Int.lt_irrefl,hx,hlt,hel,hat,hpos,hat2]));((with_reducible and_intros)<;>try exact sd))
      refine again (i+1) (fun j=>if j=67 then some 8896 else some j) [] _ hlt (by omega) ?_
      simp only [go_sem,TmOK,DM,DMs,CM,CMs,forall_eq,exists_eq_left,Mq,HpOK,LowOK,List.cons_append,List.nil_append,hci,stC_snoc,List.length_append]
      simp
      exact CMs.kf (kf_app (stC_kf _) (by simp [kf]))
     | false =>
      rw [hqq] at hat
      have hcut:cutS q vs.length (cutL q vs.length d) (.mk 1 t (.mk ik iv iks) (.mk vk vv vks) c [] [])=none:=by simp [cutS,hqq]
      rw [hcut,Option.toList_none,List.append_nil] at hci
      refine drvL Try.func20 ?_
      simp only [go_sem,hx,hlt]
      iterate 2 ((try (refine drvZ Try.func20 ?_;simp only [go_sem,hx,hlt]));((with_reducible and_intros)<;>try exact sd))
      refine XK.plain (l2CopyExpr _ (SmE_of hex.1)) ok40 ?_ (hbT ())
      iterate 2 ((try (refine drvZ Try.func20 ?_;simp only [go_sem,hx,hlt]));((with_reducible and_intros)<;>try exact sd))
      refine XK.plain (l2CopyExpr _ (SmE_of hex.2)) ok40 ?_ (hbT ())
      iterate 2 ((try (refine drvZ Try.func20 ?_;simp only [go_sem,hx,hlt]));((with_reducible and_intros)<;>try exact sd))
      refine XK.plain ihb ok20 ?_ (hbT ()) (fun _=>by kernel_rfl)
      iterate 2 ((try (refine drvZ Try.func20 ?_;simp only [go_sem,hx,hlt]));((with_reducible and_intros)<;>try exact sd))
      refine XK.plain ihe ok20 ?_ (hbT ()) (fun _=>by kernel_rfl)
      iterate 9 ((try (refine drvZ Try.func20 ?_;simp only [go_sem,St1.cellsL,Int.natCast_zero,Int.reduceLT,Int.lt_irrefl,hx,hlt,hel,hat,hpos,hat2]));((with_reducible and_intros)<;>try exact sd))
      refine again (i+1) some [] _ hlt (by omega) ?_
      simp only [go_sem,TmOK,DM,DMs,CM,CMs,forall_eq,exists_eq_left,Mq,HpOK,LowOK,List.cons_append,List.nil_append,hci]
      simp
      exact CMs.kf (stC_kf _)
    ·subst hk
     obtain ⟨rfl,rfl⟩:=hlf (by simp)
     rw [hcn] at ihb ihe
     have ht:0≤t∧t<(ar.length:Int):=by omega
     have hpos:((vs.length:Int)+t).toNat=vs.length+t.toNat:=by omega
     have hat:=@bools_at _ L (vs.length+t.toNat) (by omega)
     have hat2:=@bools_at _ L t.toNat (by omega)
     rw [hqe] at hat
     cases hqq:q (vs.length+t.toNat) with
     | true =>
      rw [hqq] at hat
      have hcut:cutS q vs.length (cutL q vs.length d) (.mk 2 t (.mk ik iv iks) (.mk vk vv vks) c [] [])=some (.mk 2 t (.mk ik iv iks) (.mk vk vv vks) c [] []):=by simp [cutS,hqq]
      rw [hcut,Option.toList_some] at hci
      refine drvL Try.func20 ?_
      simp only [go_sem,hx,hlt]
      iterate 2 ((try (refine drvZ Try.func20 ?_;simp only [go_sem,hx,hlt]));((with_reducible and_intros)<;>try exact sd))
      refine XK.plain (l2CopyExpr _ (SmE_of hex.1)) ok40 ?_ (hbT ())
      iterate 2 ((try (refine drvZ Try.func20 ?_;simp only [go_sem,hx,hlt]));((with_reducible and_intros)<;>try exact sd))
      refine XK.plain (l2CopyExpr _ (SmE_of hex.2)) ok40 ?_ (hbT ())
      iterate 2 ((try (refine drvZ Try.func20 ?_;simp only [go_sem,hx,hlt]));((with_reducible and_intros)<;>try exact sd))
      refine XK.plain ihb ok20 ?_ (hbT ()) (fun _=>by kernel_rfl)
      iterate 2 ((try (refine drvZ Try.func20 ?_;simp only [go_sem,hx,hlt]));((with_reducible and_intros)<;>try exact sd))
      refine XK.plain ihe ok20 ?_ (hbT ()) (fun _=>by kernel_rfl)
      iterate 9 ((try (refine drvZ Try.func20 ?_;simp only [go_sem,St1.cellsL,Int.natCast_zero,Int.reduceLT,Int.lt_irrefl,hx,hlt,hel,hat,hpos,hat2]));((with_reducible and_intros)<;>try exact sd))
      refine again (i+1) (fun j=>if j=67 then some 9536 else some j) [] _ hlt (by omega) ?_
      simp only [go_sem,TmOK,DM,DMs,CM,CMs,forall_eq,exists_eq_left,Mq,HpOK,LowOK,List.cons_append,List.nil_append,hci,stC_snoc,List.length_append]
      simp
      exact CMs.kf (kf_app (stC_kf _) (by simp [kf]))
     | false =>
      rw [hqq] at hat
      have hcut:cutS q vs.length (cutL q vs.length d) (.mk 2 t (.mk ik iv iks) (.mk vk vv vks) c [] [])=none:=by simp [cutS,hqq]
      rw [hcut,Option.toList_none,List.append_nil] at hci
      refine drvL Try.func20 ?_
      simp only [go_sem,hx,hlt]
      iterate 2 ((try (refine drvZ Try.func20 ?_;simp only [go_sem,hx,hlt]));((with_reducible and_intros)<;>try exact sd))
      refine XK.plain (l2CopyExpr _ (SmE_of hex.1)) ok40 ?_ (hbT ())
      iterate 2 ((try (refine drvZ Try.func20 ?_;simp only [go_sem,hx,hlt]));((with_reducible and_intros)<;>try exact sd))
      refine XK.plain (l2CopyExpr _ (SmE_of hex.2)) ok40 ?_ (hbT ())
      iterate 2 ((try (refine drvZ Try.func20 ?_;simp only [go_sem,hx,hlt]));((with_reducible and_intros)<;>try exact sd))
      refine XK.plain ihb ok20 ?_ (hbT ()) (fun _=>by kernel_rfl)
      iterate 2 ((try (refine drvZ Try.func20 ?_;simp only [go_sem,hx,hlt]));((with_reducible and_intros)<;>try exact sd))
      refine XK.plain ihe ok20 ?_ (hbT ()) (fun _=>by kernel_rfl)
      iterate 9 ((try (refine drvZ Try.func20 ?_;simp only [go_sem,St1.cellsL,Int.natCast_zero,Int.reduceLT,Int.lt_irrefl,hx,hlt,hel,hat,hpos,hat2]));((with_reducible and_intros)<;>try exact sd))
      refine again (i+1) some [] _ hlt (by omega) ?_
      simp only [go_sem,TmOK,DM,DMs,CM,CMs,forall_eq,exists_eq_left,Mq,HpOK,LowOK,List.cons_append,List.nil_append,hci]
      simp
      exact CMs.kf (stC_kf _)
    ·have e5:(k == 5)=false:=by simp [hk5]
     have e1:(k == 1)=false:=by simp [hk1]
     have e2:(k == 2)=false:=by simp [hk2]
     have hcS:cutS q vs.length (cutL q vs.length d) (.mk k t (.mk ik iv iks) (.mk vk vv vks) c b e)=if 0<(cutL q vs.length d b).length+(cutL q vs.length d e).length then some (.mk k t (.mk ik iv iks) (.mk vk vv vks) c (cutL q vs.length d b) (cutL q vs.length d e)) else none:=by simp [cutS,hk5,hk1,hk2]
     generalize cutL q vs.length d b=cb at *
     generalize cutL q vs.length d e=ce at *
     have ht0:=head_blk hbe.1 hk5 hk1 hk2
     have hat:=@bools_at _ L t.toNat (by omega)
     by_cases hb0:0<cb.length
     ·have hp1:((0:Int)<(cb.length:Int))=True:=eq_true (by omega)
      rw [if_pos (by omega)] at hcS
      rw [hcS,Option.toList_some] at hci
      refine drvL Try.func20 ?_
      simp only [go_sem,hx,hlt]
      iterate 2 ((try (refine drvZ Try.func20 ?_;simp only [go_sem,hx,hlt]));((with_reducible and_intros)<;>try exact sd))
      refine XK.plain (l2CopyExpr _ (SmE_of hex.1)) ok40 ?_ (hbT ())
      iterate 2 ((try (refine drvZ Try.func20 ?_;simp only [go_sem,hx,hlt]));((with_reducible and_intros)<;>try exact sd))
      refine XK.plain (l2CopyExpr _ (SmE_of hex.2)) ok40 ?_ (hbT ())
      iterate 2 ((try (refine drvZ Try.func20 ?_;simp only [go_sem,hx,hlt]));((with_reducible and_intros)<;>try exact sd))
      refine XK.plain ihb ok20 ?_ (hbT ()) (fun _=>by kernel_rfl)
      iterate 2 ((try (refine drvZ Try.func20 ?_;simp only [go_sem,hx,hlt]));((with_reducible and_intros)<;>try exact sd))
      refine XK.plain ihe ok20 ?_ (hbT ()) (fun _=>by kernel_rfl)
      iterate 9 ((try (refine drvZ Try.func20 ?_;simp only [go_sem,e5,e1,e2,hk5,hk1,hk2,hat,hx,hlt,hel,hp1]));((with_reducible and_intros)<;>try exact sd))
      refine again (i+1) (fun j=>if j=67 then some 8896 else some j) [] _ hlt (by omega) ?_
      simp only [go_sem,TmOK,DM,DMs,CM,CMs,forall_eq,exists_eq_left,Mq,HpOK,LowOK,List.cons_append,List.nil_append,hci,stC_snoc,List.length_append]
      simp
      exact CMs.kf (kf_app (stC_kf _) (by simp [kf]))
     ·have hp1:((0:Int)<(cb.length:Int))=False:=eq_false (by omega)
      by_cases he0:0<ce.length
      ·have hp2:((0:Int)<(ce.length:Int))=True:=eq_true (by omega)
       rw [if_pos (by omega)] at hcS
       rw [hcS,Option.toList_some] at hci
       refine drvL Try.func20 ?_
       simp only [go_sem,hx,hlt]
       iterate 2 ((try (refine drvZ Try.func20 ?_;simp only [go_sem,hx,hlt]));((with_reducible and_intros)<;>try exact sd))
       refine XK.plain (l2CopyExpr _ (SmE_of hex.1)) ok40 ?_ (hbT ())
       iterate 2 ((try (refine drvZ Try.func20 ?_;simp only [go_sem,hx,hlt]));((with_reducible and_intros)<;>try exact sd))
       refine XK.plain (l2CopyExpr _ (SmE_of hex.2)) ok40 ?_ (hbT ())
       iterate 2 ((try (refine drvZ Try.func20 ?_;simp only [go_sem,hx,hlt]));((with_reducible and_intros)<;>try exact sd))
       refine XK.plain ihb ok20 ?_ (hbT ()) (fun _=>by kernel_rfl)
       iterate 2 ((try (refine drvZ Try.func20 ?_;simp only [go_sem,hx,hlt]));((with_reducible and_intros)<;>try exact sd))
       refine XK.plain ihe ok20 ?_ (hbT ()) (fun _=>by kernel_rfl)
       iterate 9 ((try (refine drvZ Try.func20 ?_;simp only [go_sem,e5,e1,e2,hk5,hk1,hk2,hat,hx,hlt,hel,hp1,hp2]));((with_reducible and_intros)<;>try exact sd))
       refine again (i+1) (fun j=>if j=67 then some 8896 else some j) [] _ hlt (by omega) ?_
       simp only [go_sem,TmOK,DM,DMs,CM,CMs,forall_eq,exists_eq_left,Mq,HpOK,LowOK,List.cons_append,List.nil_append,hci,stC_snoc,List.length_append]
       simp
       exact CMs.kf (kf_app (stC_kf _) (by simp [kf]))
      ·have hp2:((0:Int)<(ce.length:Int))=False:=eq_false (by omega)
       rw [if_neg (by omega)] at hcS
       rw [hcS,Option.toList_none,List.append_nil] at hci
       refine drvL Try.func20 ?_
       simp only [go_sem,hx,hlt]
       iterate 2 ((try (refine drvZ Try.func20 ?_;simp only [go_sem,hx,hlt]));((with_reducible and_intros)<;>try exact sd))
       refine XK.plain (l2CopyExpr _ (SmE_of hex.1)) ok40 ?_ (hbT ())
       iterate 2 ((try (refine drvZ Try.func20 ?_;simp only [go_sem,hx,hlt]));((with_reducible and_intros)<;>try exact sd))
       refine XK.plain (l2CopyExpr _ (SmE_of hex.2)) ok40 ?_ (hbT ())
       iterate 2 ((try (refine drvZ Try.func20 ?_;simp only [go_sem,hx,hlt]));((with_reducible and_intros)<;>try exact sd))
       refine XK.plain ihb ok20 ?_ (hbT ()) (fun _=>by kernel_rfl)
       iterate 2 ((try (refine drvZ Try.func20 ?_;simp only [go_sem,hx,hlt]));((with_reducible and_intros)<;>try exact sd))
       refine XK.plain ihe ok20 ?_ (hbT ()) (fun _=>by kernel_rfl)
       iterate 9 ((try (refine drvZ Try.func20 ?_;simp only [go_sem,e5,e1,e2,hk5,hk1,hk2,hat,hx,hlt,hel,hp1,hp2]));((with_reducible and_intros)<;>try exact sd))
       refine again (i+1) some [] _ hlt (by omega) ?_
       simp only [go_sem,TmOK,DM,DMs,CM,CMs,forall_eq,exists_eq_left,Mq,HpOK,LowOK,List.cons_append,List.nil_append,hci]
       simp
       exact CMs.kf (stC_kf _)
   ·have hn2:¬ i<l.length:=by omega
    obtain rfl:i=l.length:=by omega
    refine drvL Try.func20 ?_
    simp only [go_sem,hn2,List.take_length]
    iterate 2 ((try (refine drvZ Try.func20 ?_;simp only [go_sem,hn2,List.take_length]));((with_reducible and_intros)<;>try exact sd))
    generalize hCi:cutL q vs.length (d+1) l=Ci at *
    refine RetOb.ofQ (fun j=>none) [67] (.c (.isl 11 (St1.cellsL Ci))) [] ?_ (by rw [← hR];exact ⟨rfl,rfl⟩) (by simp)
    have g1:(St1.cellsL Ci).flatten=stC Ci:=by rw [St1.cellsL_eq];rfl
    have g2:∀ x ∈ St1.cellsL Ci,x.length=11:=fun x hx=>by rw [St1.cellsL_eq] at hx;obtain ⟨e,_,rfl⟩:=List.mem_map.1 hx;exact St1.cells_len e
    have g3:∀ x ∈ St1.cellsL Ci,∀ c ∈ x,kf c=true:=fun x hx=>by rw [St1.cellsL_eq] at hx;obtain ⟨e,_,rfl⟩:=List.mem_map.1 hx;exact st_kf e
    simp only [enumL,hOf,DM,DMs,CM,CMs,HpOK,LowOK,upd,St1.cellsL_length,g1]
    first | (simp;exact ⟨g2,g3⟩) | (simp [g2];exact g3) | exact ⟨g2,g3⟩
  ·simp only [go_sem,TmOK,DM,DMs,CM,CMs,forall_eq,exists_eq_left,Mq,HpOK,LowOK]
   simp [cutL,stC,CMs]
end Go.Proofs.Ytlapccpnilomfaa.CtD
