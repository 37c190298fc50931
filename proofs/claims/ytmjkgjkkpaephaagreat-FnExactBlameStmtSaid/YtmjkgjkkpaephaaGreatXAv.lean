/- Contracts of functions of the program, one behind the other, as plain data: what each call returns and which blocks it leaves. -/
import Derived.Test.YtmjkgjkkpaephaaGreatXFacts
import Derived.Test.YtmjkgjkkpaephaaGreatXAi
import Derived.Test.YtmjkgjkkpaephaaGreatXAj
import Derived.Test.YtmjkgjkkpaephaaGreatXAl
import Derived.Test.YtmjkgjkkpaephaaGreatXAm
import Derived.Test.YtmjkgjkkpaephaaGreatXAn
import Derived.Test.YtmjkgjkkpaephaaGreatXAr
import Derived.Test.YtmjkgjkkpaephaaGreatXAs
import Derived.Test.YtmjkgjkkpaephaaGreatXAu
import Derived.Test.YtmjkgjkkpaephaaGreatXAk
set_option linter.unusedVariables false
set_option linter.unusedSimpArgs false
set_option maxHeartbeats 16000000
set_option maxRecDepth 100000
namespace Go.Proofs.YtmjkgjkkpaephaaGreat.CtD
open Go Go.CT CtF CtR
open CtL (In Cd codeOK runC blm blAt blmC)
theorem fdif_le : ∀ (xs ys : List Ev) (n : Int), fdif xs ys n ≤ n + xs.length ∨ fdif xs ys n = -1
 | [],[],n => .inr rfl
 | [],b :: r,n => .inl (by simp [fdif])
 | a :: r,[],n => .inl (by simp only [fdif,List.length_cons];omega)
 | a :: r,b :: s,n=>by
  simp only [fdif,List.length_cons]
  split
  ·rcases fdif_le r s (n+1) with h | h
   ·exact .inl (by omega)
   ·exact .inr h
  ·exact .inl (by omega)
theorem blameInstrS (c:Cd) (a b:Mm) (h1:c.vars.length≤2000000) (h2:c.arrays.length≤2000000) (h3:c.list.length≤100000000):DC Tryz.prog 33 [.agg (cdC c),.agg a.cells,.agg b.cells] [] (fun r h=>r=DI .i64 (blmC c a b)∧h=[]):=by
 have hmx:=mx_eq
 have hra:=runCodeS c a h1 h2 h3
 have hrb:=runCodeS c b h1 h2 h3
 have hla:=runC_len c a
 have hlb:=runC_len c b
 have ret:∀ (v:Int) (hp:Hp),v=blmC c a b→RetOb 0 (fun r h=>r=DI .i64 (blmC c a b)∧h=[]) (DI .i64 v) hp:=fun v hp h=>RetOb.plain (d:=DI .i64 _) ⟨by rw [h],rfl⟩ rfl
 generalize hR:(fun (r:D) (h:List (Option (List C)))=>r=DI .i64 (blmC c a b)∧h=[])=R at ret ⊢
 clear hR
 unfold blmC at ret
 generalize runC c a=X at *
 generalize runC c b=Y at *
 obtain ⟨⟨u1,u2⟩,t1,b1⟩:=X
 obtain ⟨⟨v1,v2⟩,t2,b2⟩:=Y
 simp only at hla hlb ret
 have hfd:=firstDifferenceG t1 t2 (by omega) (by omega)
 have hfg:=fdif_ge t1 t2 0 (by omega)
 have hfl:=fdif_le t1 t2 0
 generalize fdif t1 t2 0=k at *
 obtain ⟨vs,ar,l⟩:=c
 obtain ⟨va,arr⟩:=a
 obtain ⟨va',arr'⟩:=b
 unfold cdC at *
 simp only at *
 have hmx:=mx_eq
 cases b1 with
 | false =>
  refine dcZ Tryz.func33 ?_
  simp only [go_sem,Mm.cells]
  iterate 12 ((try (refine drvZ Tryz.func33 ?_;simp only [go_sem,Mm.cells]));((with_reducible and_intros)<;>try exact sd);(try first | refine XK.p hra ok73 ?_ | refine XK.gp hra ok73 ?_ | refine XK.p hrb ok73 ?_ | refine XK.gp hrb ok73 ?_ | refine XK.p hfd ok74 ?_ | refine XK.gp hfd ok74 ?_))
  exact ret _ _ (by simp)
 | true =>
  cases b2 with
  | false =>
   refine dcZ Tryz.func33 ?_
   simp only [go_sem,Mm.cells]
   iterate 12 ((try (refine drvZ Tryz.func33 ?_;simp only [go_sem,Mm.cells]));((with_reducible and_intros)<;>try exact sd);(try first | refine XK.p hra ok73 ?_ | refine XK.gp hra ok73 ?_ | refine XK.p hrb ok73 ?_ | refine XK.gp hrb ok73 ?_ | refine XK.p hfd ok74 ?_ | refine XK.gp hfd ok74 ?_))
   exact ret _ _ (by simp)
  | true =>
   by_cases hk:k<0
   ·have g1:(k<0)=True:=eq_true hk
    refine dcZ Tryz.func33 ?_
    simp only [go_sem,Mm.cells]
    iterate 12 ((try (refine drvZ Tryz.func33 ?_;simp only [go_sem,Mm.cells,g1]));((with_reducible and_intros)<;>try exact sd);(try first | refine XK.p hra ok73 ?_ | refine XK.gp hra ok73 ?_ | refine XK.p hrb ok73 ?_ | refine XK.gp hrb ok73 ?_ | refine XK.p hfd ok74 ?_ | refine XK.gp hfd ok74 ?_))
    exact ret _ _ (by rw [if_neg];omega)
   ·have g1:(k<0)=False:=eq_false hk
    obtain ⟨n,rfl⟩:∃ n:Nat,k=n:=⟨k.toNat,by omega⟩
    have hlb:=l15Blame t1 n (by omega) (by omega)
    refine dcZ Tryz.func33 ?_
    simp only [go_sem,Mm.cells]
    iterate 12 ((try (refine drvZ Tryz.func33 ?_;simp only [go_sem,Mm.cells,g1]));((with_reducible and_intros)<;>try exact sd);(try first | refine XK.p hra ok73 ?_ | refine XK.gp hra ok73 ?_ | refine XK.p hrb ok73 ?_ | refine XK.gp hrb ok73 ?_ | refine XK.p hfd ok74 ?_ | refine XK.gp hfd ok74 ?_ | refine XK.p hlb ok75 ?_ | refine XK.gp hlb ok75 ?_))
    exact ret _ _ (by rw [if_pos ⟨rfl,rfl,by omega⟩];rfl)
theorem blameInstrOf (c : Cd) (a b : Mm) (hra : DC Tryz.prog 24 [.agg (cdC c), .agg a.cells] [] (fun r h => r = .tup [.agg (runC c a).1.cells, .c (trD (runC c a).2.1), DB (runC c a).2.2] ∧ h = []))
 (hrb:DC Tryz.prog 24 [.agg (cdC c),.agg b.cells] [] (fun r h=>r = .tup [.agg (runC c b).1.cells,.c (trD (runC c b).2.1),DB (runC c b).2.2]∧h=[])) :
 DC Tryz.prog 39 [.agg (cdC c),.agg a.cells,.agg b.cells] [] (fun r h=>r=DI .i64 (blmC c a b)∧h=[]):=by
 have hmx:=mx_eq
 have hla:=runC_len c a
 have hlb:=runC_len c b
 have ret:∀ (v:Int) (hp:Hp),v=blmC c a b→RetOb 0 (fun r h=>r=DI .i64 (blmC c a b)∧h=[]) (DI .i64 v) hp:=fun v hp h=>RetOb.plain (d:=DI .i64 _) ⟨by rw [h],rfl⟩ rfl
 generalize hR:(fun (r:D) (h:List (Option (List C)))=>r=DI .i64 (blmC c a b)∧h=[])=R at ret ⊢
 clear hR
 unfold blmC at ret
 generalize runC c a=X at *
 generalize runC c b=Y at *
 obtain ⟨⟨u1,u2⟩,t1,b1⟩:=X
 obtain ⟨⟨v1,v2⟩,t2,b2⟩:=Y
 simp only at hla hlb ret
 have hfd:=firstDifference t1 t2 (by omega) (by omega)
 have hfg:=fdif_ge t1 t2 0 (by omega)
 have hfl:=fdif_le t1 t2 0
 generalize fdif t1 t2 0=k at *
 obtain ⟨vs,ar,l⟩:=c
 obtain ⟨va,arr⟩:=a
 obtain ⟨va',arr'⟩:=b
 unfold cdC at *
 simp only at *
 have hmx:=mx_eq
 cases b1 with
 | false =>
  refine dcZ Tryz.func39 ?_
  simp only [go_sem,Mm.cells]
  iterate 12 ((try (refine drvZ Tryz.func39 ?_;simp only [go_sem,Mm.cells]));((with_reducible and_intros)<;>try exact sd);(try first | refine XK.p hra ok24 ?_ | refine XK.gp hra ok24 ?_ | refine XK.p hrb ok24 ?_ | refine XK.gp hrb ok24 ?_ | refine XK.p hfd ok78 ?_ | refine XK.gp hfd ok78 ?_))
  exact ret _ _ (by simp)
 | true =>
  cases b2 with
  | false =>
   refine dcZ Tryz.func39 ?_
   simp only [go_sem,Mm.cells]
   iterate 12 ((try (refine drvZ Tryz.func39 ?_;simp only [go_sem,Mm.cells]));((with_reducible and_intros)<;>try exact sd);(try first | refine XK.p hra ok24 ?_ | refine XK.gp hra ok24 ?_ | refine XK.p hrb ok24 ?_ | refine XK.gp hrb ok24 ?_ | refine XK.p hfd ok78 ?_ | refine XK.gp hfd ok78 ?_))
   exact ret _ _ (by simp)
  | true =>
   by_cases hk:k<0
   ·have g1:(k<0)=True:=eq_true hk
    refine dcZ Tryz.func39 ?_
    simp only [go_sem,Mm.cells]
    iterate 12 ((try (refine drvZ Tryz.func39 ?_;simp only [go_sem,Mm.cells,g1]));((with_reducible and_intros)<;>try exact sd);(try first | refine XK.p hra ok24 ?_ | refine XK.gp hra ok24 ?_ | refine XK.p hrb ok24 ?_ | refine XK.gp hrb ok24 ?_ | refine XK.p hfd ok78 ?_ | refine XK.gp hfd ok78 ?_))
    exact ret _ _ (by rw [if_neg];omega)
   ·have g1:(k<0)=False:=eq_false hk
    obtain ⟨n,rfl⟩:∃ n:Nat,k=n:=⟨k.toNat,by omega⟩
    rw [if_pos ⟨rfl,rfl,by omega⟩,Int.toNat_natCast] at ret
    have hnl:n≤t1.length:=by omega
    have round:blAt t1 n≤t1.length:=by
     unfold blAt
     rcases Nat.lt_or_ge n t1.length with h | h
     ·rw [List.getElem?_eq_getElem h]
      simp only
      split<;>omega
     ·rw [List.getElem?_eq_none h];exact hnl
    rcases Nat.lt_or_ge n t1.length with hlt | hge
    ·obtain ⟨⟨kk,kv⟩,hx⟩:∃ x,t1[n]? = some x:=⟨t1[n],by simp [hlt]⟩
     have hnge:((t1.length:Int)≤(n:Int))=False:=eq_false (by omega)
     by_cases h5:kk=5
     ·subst h5
      have hb:blAt t1 n=n:=by simp [blAt,hx]
      refine dcZ Tryz.func39 ?_
      simp only [go_sem,Mm.cells]
      iterate 12 ((try (refine drvZ Tryz.func39 ?_;simp only [go_sem,Mm.cells,g1,hnge,hlt,hx,trD,Ev.cells]));((with_reducible and_intros)<;>try exact sd);(try first | refine XK.p hra ok24 ?_ | refine XK.gp hra ok24 ?_ | refine XK.p hrb ok24 ?_ | refine XK.gp hrb ok24 ?_ | refine XK.p hfd ok78 ?_ | refine XK.gp hfd ok78 ?_))
      refine Go.loopQ (fun j:Nat=>[(8,.c (trD t1)),(13,DI .i64 ((j:Int) - 1))]) (fun _=>[]) 4096 (fun j=>j≤blAt t1 n∧blm t1 j=blm t1 (blAt t1 n)) (fun j=>j) ?_ (blAt t1 n) some [] _ ⟨Nat.le_refl _,rfl⟩ ?_
      ·rintro j ⟨hj,hI⟩ again
       match j,hj,hI,again with
       | 0,hj,hI,again =>
        simp only [show ((0:Nat):Int) - 1 = -1 from rfl]
        rcases h0x:t1[0]? with _ | ⟨k0,v0⟩
        ·refine drvL Tryz.func39 ?_
         simp only [go_sem,trD,h0x]
         iterate 6 ((try (refine drvZ Tryz.func39 ?_;simp only [go_sem,trD,h0x]));((with_reducible and_intros)<;>try exact sd))
         exact ret _ _ hI
        ·refine drvL Tryz.func39 ?_
         simp only [go_sem,trD,h0x,Ev.cells]
         iterate 6 ((try (refine drvZ Tryz.func39 ?_;simp only [go_sem,trD,h0x,Ev.cells]));((with_reducible and_intros)<;>try exact sd))
         exact ret _ _ hI
       | j+1,hj,hI,again =>
        have h0:(0:Int)≤((j+1:Nat):Int) - 1:=by omega
        have h1:((j+1:Nat):Int) - 1=(j:Int):=by omega
        have h2:((j:Int)<0)=False:=eq_false (by omega)
        simp only [h1]
        have hjl:j<t1.length:=by omega
        obtain ⟨⟨k2,v⟩,hx2⟩:∃ x,t1[j]? = some x:=⟨t1[j],by simp [hjl]⟩
        by_cases hk5:k2=5
        ·subst hk5
         have hI2:v=blm t1 (blAt t1 n):=by rw [← hI];simp [blm,hx2]
         refine drvL Tryz.func39 ?_
         simp only [go_sem,trD,hjl,hx2,Ev.cells]
         iterate 6 ((try (refine drvZ Tryz.func39 ?_;simp only [go_sem,trD,hjl,hx2,Ev.cells,h2,bne_self_eq_false]));((with_reducible and_intros)<;>try exact sd))
         exact ret _ _ hI2
        ·have e52:(k2 != 5)=true:=by simp [hk5]
         have hI2:blm t1 j=blm t1 (blAt t1 n):=by rw [← hI];simp [blm,hx2,hk5]
         refine drvL Tryz.func39 ?_
         simp only [go_sem,trD,hjl,hx2,Ev.cells]
         iterate 6 ((try (refine drvZ Tryz.func39 ?_;simp only [go_sem,trD,hjl,hx2,Ev.cells,e52]));((with_reducible and_intros)<;>try exact sd))
         refine again j some [] _ ⟨by omega,hI2⟩ (by omega) ?_
         simp only [go_sem,TmOK,DM,DMs,CM,CMs,forall_eq,exists_eq_left,Mq,HpOK,LowOK,trD]
         try simp
      ·rw [hb]
       simp only [go_sem,TmOK,DM,DMs,CM,CMs,forall_eq,exists_eq_left,Mq,HpOK,LowOK,trD]
       try simp
     ·have e5:(kk == 5)=false:=by simp [h5]
      have hb:blAt t1 n=n+1:=by simp [blAt,hx,h5]
      refine dcZ Tryz.func39 ?_
      simp only [go_sem,Mm.cells]
      iterate 12 ((try (refine drvZ Tryz.func39 ?_;simp only [go_sem,Mm.cells,g1,hnge,hlt,hx,e5,trD,Ev.cells]));((with_reducible and_intros)<;>try exact sd);(try first | refine XK.p hra ok24 ?_ | refine XK.gp hra ok24 ?_ | refine XK.p hrb ok24 ?_ | refine XK.gp hrb ok24 ?_ | refine XK.p hfd ok78 ?_ | refine XK.gp hfd ok78 ?_))
      refine Go.loopQ (fun j:Nat=>[(8,.c (trD t1)),(13,DI .i64 ((j:Int) - 1))]) (fun _=>[]) 4096 (fun j=>j≤blAt t1 n∧blm t1 j=blm t1 (blAt t1 n)) (fun j=>j) ?_ (blAt t1 n) some [] _ ⟨Nat.le_refl _,rfl⟩ ?_
      ·rintro j ⟨hj,hI⟩ again
       match j,hj,hI,again with
       | 0,hj,hI,again =>
        simp only [show ((0:Nat):Int) - 1 = -1 from rfl]
        rcases h0x:t1[0]? with _ | ⟨k0,v0⟩
        ·refine drvL Tryz.func39 ?_
         simp only [go_sem,trD,h0x]
         iterate 6 ((try (refine drvZ Tryz.func39 ?_;simp only [go_sem,trD,h0x]));((with_reducible and_intros)<;>try exact sd))
         exact ret _ _ hI
        ·refine drvL Tryz.func39 ?_
         simp only [go_sem,trD,h0x,Ev.cells]
         iterate 6 ((try (refine drvZ Tryz.func39 ?_;simp only [go_sem,trD,h0x,Ev.cells]));((with_reducible and_intros)<;>try exact sd))
         exact ret _ _ hI
       | j+1,hj,hI,again =>
        have h0:(0:Int)≤((j+1:Nat):Int) - 1:=by omega
        have h1:((j+1:Nat):Int) - 1=(j:Int):=by omega
        have h2:((j:Int)<0)=False:=eq_false (by omega)
        simp only [h1]
        have hjl:j<t1.length:=by omega
        obtain ⟨⟨k2,v⟩,hx2⟩:∃ x,t1[j]? = some x:=⟨t1[j],by simp [hjl]⟩
        by_cases hk5:k2=5
        ·subst hk5
         have hI2:v=blm t1 (blAt t1 n):=by rw [← hI];simp [blm,hx2]
         refine drvL Tryz.func39 ?_
         simp only [go_sem,trD,hjl,hx2,Ev.cells]
         iterate 6 ((try (refine drvZ Tryz.func39 ?_;simp only [go_sem,trD,hjl,hx2,Ev.cells,h2,bne_self_eq_false]));((with_reducible and_intros)<;>try exact sd))
         exact ret _ _ hI2
        ·have e52:(k2 != 5)=true:=by simp [hk5]
         have hI2:blm t1 j=blm t1 (blAt t1 n):=by rw [← hI];simp [blm,hx2,hk5]
         refine drvL Tryz.func39 ?_
         simp only [go_sem,trD,hjl,hx2,Ev.cells]
         iterate 6 ((try (refine drvZ Tryz.func39 ?_;simp only [go_sem,trD,hjl,hx2,Ev.cells,e52]));((with_reducible and_intros)<;>try exact sd))
         refine again j some [] _ ⟨by omega,hI2⟩ (by omega) ?_
         simp only [go_sem,TmOK,DM,DMs,CM,CMs,forall_eq,exists_eq_left,Mq,HpOK,LowOK,trD]
         try simp
      ·rw [hb]
       simp only [go_sem,TmOK,DM,DMs,CM,CMs,forall_eq,exists_eq_left,Mq,HpOK,LowOK,trD]
       try simp
    ·have hb:blAt t1 n=n:=by simp [blAt,List.getElem?_eq_none hge]
     have hle:((t1.length:Int)≤(n:Int))=True:=eq_true (by omega)
     have hnone:=List.getElem?_eq_none hge
     refine dcZ Tryz.func39 ?_
     simp only [go_sem,Mm.cells]
     iterate 12 ((try (refine drvZ Tryz.func39 ?_;simp only [go_sem,Mm.cells,g1,hle,hnone,trD,Ev.cells]));((with_reducible and_intros)<;>try exact sd);(try first | refine XK.p hra ok24 ?_ | refine XK.gp hra ok24 ?_ | refine XK.p hrb ok24 ?_ | refine XK.gp hrb ok24 ?_ | refine XK.p hfd ok78 ?_ | refine XK.gp hfd ok78 ?_))
     refine Go.loopQ (fun j:Nat=>[(8,.c (trD t1)),(13,DI .i64 ((j:Int) - 1))]) (fun _=>[]) 4096 (fun j=>j≤blAt t1 n∧blm t1 j=blm t1 (blAt t1 n)) (fun j=>j) ?_ (blAt t1 n) some [] _ ⟨Nat.le_refl _,rfl⟩ ?_
     ·rintro j ⟨hj,hI⟩ again
      match j,hj,hI,again with
      | 0,hj,hI,again =>
       simp only [show ((0:Nat):Int) - 1 = -1 from rfl]
       rcases h0x:t1[0]? with _ | ⟨k0,v0⟩
       ·refine drvL Tryz.func39 ?_
        simp only [go_sem,trD,h0x]
        iterate 6 ((try (refine drvZ Tryz.func39 ?_;simp only [go_sem,trD,h0x]));((with_reducible and_intros)<;>try exact sd))
        exact ret _ _ hI
       ·refine drvL Tryz.func39 ?_
        simp only [go_sem,trD,h0x,Ev.cells]
        iterate 6 ((try (refine drvZ Tryz.func39 ?_;simp only [go_sem,trD,h0x,Ev.cells]));((with_reducible and_intros)<;>try exact sd))
        exact ret _ _ hI
      | j+1,hj,hI,again =>
       have h0:(0:Int)≤((j+1:Nat):Int) - 1:=by omega
       have h1:((j+1:Nat):Int) - 1=(j:Int):=by omega
       have h2:((j:Int)<0)=False:=eq_false (by omega)
       simp only [h1]
       have hjl:j<t1.length:=by omega
       obtain ⟨⟨k2,v⟩,hx2⟩:∃ x,t1[j]? = some x:=⟨t1[j],by simp [hjl]⟩
       by_cases hk5:k2=5
       ·subst hk5
        have hI2:v=blm t1 (blAt t1 n):=by rw [← hI];simp [blm,hx2]
        refine drvL Tryz.func39 ?_
        simp only [go_sem,trD,hjl,hx2,Ev.cells]
        iterate 6 ((try (refine drvZ Tryz.func39 ?_;simp only [go_sem,trD,hjl,hx2,Ev.cells,h2,bne_self_eq_false]));((with_reducible and_intros)<;>try exact sd))
        exact ret _ _ hI2
       ·have e52:(k2 != 5)=true:=by simp [hk5]
        have hI2:blm t1 j=blm t1 (blAt t1 n):=by rw [← hI];simp [blm,hx2,hk5]
        refine drvL Tryz.func39 ?_
        simp only [go_sem,trD,hjl,hx2,Ev.cells]
        iterate 6 ((try (refine drvZ Tryz.func39 ?_;simp only [go_sem,trD,hjl,hx2,Ev.cells,e52]));((with_reducible and_intros)<;>try exact sd))
        refine again j some [] _ ⟨by omega,hI2⟩ (by omega) ?_
        simp only [go_sem,TmOK,DM,DMs,CM,CMs,forall_eq,exists_eq_left,Mq,HpOK,LowOK,trD]
        try simp
     ·rw [hb]
      simp only [go_sem,TmOK,DM,DMs,CM,CMs,forall_eq,exists_eq_left,Mq,HpOK,LowOK,trD]
      try simp
end Go.Proofs.YtmjkgjkkpaephaaGreat.CtD
namespace Go.Proofs.YtmjkgjkkpaephaaGreat.CtD
open Go Go.CT CtF CtR
open CtL (In Cd codeOK runC blmC compP compL blmC_law)
theorem blm_rng {p:Pg} {a b:Mm} (hok:progOK p=true):blmC ⟨p.vars,p.arrays,compL p⟩ a b = -1∨∃ pc:Nat,blmC ⟨p.vars,p.arrays,compL p⟩ a b=pc∧pc<(ownL p).length:=by
 rcases blmC_law ⟨p.vars,p.arrays,compL p⟩ a b with ⟨e,_⟩ | ⟨pc,e,_,_,_,_,hpc,_⟩
 ·exact .inl e
 ·exact .inr ⟨pc,e,by rw [ownL_len hok];exact hpc⟩
theorem blameStmtS (p:Pg) (a b:Mm) (hv:p.vars.length≤2000000) (ha:p.arrays.length≤2000000) (hz:lsize 5 p.body≤1099511627776):DC Tryz.prog 8 [.agg p.cells,.agg a.cells,.agg b.cells] [] (fun r h=>r=DI .i64 (bsP p a b)∧h=[]):=by
 have hci:=compProgS p hv ha hz
 have hcm:=compMapS p hv ha hz
 have ret:∀ (v:Int) (hp:Hp),v=bsP p a b→RetOb 0 (fun r h=>r=DI .i64 (bsP p a b)∧h=[]) (DI .i64 v) hp:=fun v hp h=>RetOb.plain (d:=DI .i64 _) ⟨by rw [h],rfl⟩ rfl
 generalize hR:(fun (r:D) (h:List (Option (List C)))=>r=DI .i64 (bsP p a b)∧h=[])=R at ret ⊢
 clear hR
 unfold bsP at ret
 rcases compP_cases p with hc | ⟨hok,hlen,hc⟩
 ·rw [hc] at hci hcm ret
  simp only [cdC,ints,List.map_nil] at hci
  have hmx:=mx_eq
  clear hcm
  obtain ⟨vs,ar,bd⟩:=p
  obtain ⟨va,arr⟩:=a
  obtain ⟨va',arr'⟩:=b
  refine dcZ Tryz.func8 ?_
  simp only [go_sem,Mm.cells]
  iterate 6 ((try (refine drvZ Tryz.func8 ?_;simp only [go_sem,Mm.cells]));((with_reducible and_intros)<;>try exact sd);(try first | refine XK.p hci ok32 ?_ | refine XK.gp hci ok32 ?_))
  exact ret _ _ (by simp)
 ·have hmp:mapP p=ownL p:=if_pos (by rw [hc])
  have hbr:=blm_rng (a:=a) (b:=b) hok
  have hlc:=CtL.compL_len hok
  have hbi:=blameInstrS ⟨p.vars,p.arrays,compL p⟩ a b hv ha (by simp only;omega)
  rw [hc] at hci hcm ret
  rw [hmp] at hcm ret
  simp only at ret
  simp only [cdC,ints] at hci hbi
  generalize blmC ⟨p.vars,p.arrays,compL p⟩ a b=k at *
  generalize compL p=B at *
  generalize ownL p=W at *
  have hmx:=mx_eq
  obtain ⟨vs,ar,bd⟩:=p
  obtain ⟨va,arr⟩:=a
  obtain ⟨va',arr'⟩:=b
  rcases hbr with rfl | ⟨n,rfl,hn⟩
  ·refine dcZ Tryz.func8 ?_
   simp only [go_sem,Mm.cells]
   iterate 8 ((try (refine drvZ Tryz.func8 ?_;simp only [go_sem,Mm.cells]));((with_reducible and_intros)<;>try exact sd);(try first | refine XK.p hci ok32 ?_ | refine XK.gp hci ok32 ?_ | refine XK.p hbi ok33 ?_ | refine XK.gp hbi ok33 ?_))
   exact ret _ _ (by simp)
  ·have g1:((n:Int)<0)=False:=eq_false (by omega)
   obtain ⟨x,hx⟩:∃ x,W[n]? = some x:=⟨W[n],by simp [hn]⟩
   refine dcZ Tryz.func8 ?_
   simp only [go_sem,Mm.cells]
   iterate 10 ((try (refine drvZ Tryz.func8 ?_;simp only [go_sem,Mm.cells,g1,hn,hx,List.length_map]));((with_reducible and_intros)<;>try exact sd);(try first | refine XK.p hci ok32 ?_ | refine XK.gp hci ok32 ?_ | refine XK.p hbi ok33 ?_ | refine XK.gp hbi ok33 ?_ | refine XK.p hcm ok34 ?_ | refine XK.gp hcm ok34 ?_))
   refine ret _ _ ?_
   rw [if_pos ⟨trivial,by omega⟩,Int.toNat_natCast,List.getD_eq_getElem?_getD,hx]
   rfl
theorem blameStmtI (p:Pg) (a b:Mm) (hv:p.vars.length≤2000000) (ha:p.arrays.length≤2000000):DC Tryz.prog 11 [.agg p.cells,.agg a.cells,.agg b.cells] [] (fun r h=>r=DI .i64 (bsP p a b)∧h=[]):=by
 have hci:=compProgIA p hv ha
 have hcm:=compMapI p hv ha
 have ret:∀ (v:Int) (hp:Hp),v=bsP p a b→RetOb 0 (fun r h=>r=DI .i64 (bsP p a b)∧h=[]) (DI .i64 v) hp:=fun v hp h=>RetOb.plain (d:=DI .i64 _) ⟨by rw [h],rfl⟩ rfl
 generalize hR:(fun (r:D) (h:List (Option (List C)))=>r=DI .i64 (bsP p a b)∧h=[])=R at ret ⊢
 clear hR
 unfold bsP at ret
 rcases compP_cases p with hc | ⟨hok,hlen,hc⟩
 ·rw [hc] at hci hcm ret
  simp only [cdC,ints,List.map_nil] at hci
  have hmx:=mx_eq
  clear hcm
  obtain ⟨vs,ar,bd⟩:=p
  obtain ⟨va,arr⟩:=a
  obtain ⟨va',arr'⟩:=b
  refine dcZ Tryz.func11 ?_
  simp only [go_sem,Mm.cells]
  iterate 6 ((try (refine drvZ Tryz.func11 ?_;simp only [go_sem,Mm.cells]));((with_reducible and_intros)<;>try exact sd);(try first | refine XK.p hci ok38 ?_ | refine XK.gp hci ok38 ?_))
  exact ret _ _ (by simp)
 ·have hmp:mapP p=ownL p:=if_pos (by rw [hc])
  have hbr:=blm_rng (a:=a) (b:=b) hok
  have hcv:=CtL.comp_valid hok hlen
  have hbi:=blameInstrOf ⟨p.vars,p.arrays,compL p⟩ a b (runCodeI _ a hcv) (runCodeI _ b hcv)
  rw [hc] at hci hcm ret
  rw [hmp] at hcm ret
  simp only at ret
  simp only [cdC,ints] at hci hbi
  clear hcv
  generalize blmC ⟨p.vars,p.arrays,compL p⟩ a b=k at *
  generalize compL p=B at *
  generalize ownL p=W at *
  have hmx:=mx_eq
  obtain ⟨vs,ar,bd⟩:=p
  obtain ⟨va,arr⟩:=a
  obtain ⟨va',arr'⟩:=b
  rcases hbr with rfl | ⟨n,rfl,hn⟩
  ·refine dcZ Tryz.func11 ?_
   simp only [go_sem,Mm.cells]
   iterate 8 ((try (refine drvZ Tryz.func11 ?_;simp only [go_sem,Mm.cells]));((with_reducible and_intros)<;>try exact sd);(try first | refine XK.p hci ok38 ?_ | refine XK.gp hci ok38 ?_ | refine XK.p hbi ok39 ?_ | refine XK.gp hbi ok39 ?_))
   exact ret _ _ (by simp)
  ·have g1:((n:Int)<0)=False:=eq_false (by omega)
   obtain ⟨x,hx⟩:∃ x,W[n]? = some x:=⟨W[n],by simp [hn]⟩
   refine dcZ Tryz.func11 ?_
   simp only [go_sem,Mm.cells]
   iterate 10 ((try (refine drvZ Tryz.func11 ?_;simp only [go_sem,Mm.cells,g1,hn,hx,List.length_map]));((with_reducible and_intros)<;>try exact sd);(try first | refine XK.p hci ok38 ?_ | refine XK.gp hci ok38 ?_ | refine XK.p hbi ok39 ?_ | refine XK.gp hbi ok39 ?_ | refine XK.p hcm ok40 ?_ | refine XK.gp hcm ok40 ?_))
   refine ret _ _ ?_
   rw [if_pos ⟨trivial,by omega⟩,Int.toNat_natCast,List.getD_eq_getElem?_getD,hx]
   rfl
end Go.Proofs.YtmjkgjkkpaephaaGreat.CtD
namespace Go.Proofs.YtmjkgjkkpaephaaGreat.CtD
open Go Go.CT CtF CtR
mutual
def szE : Ex → Nat
 | .mk _ _ ks=>szEL ks
def szEL : List Ex → Nat
 | []=>0
 | e :: r=>(1+szE e)+szEL r
end
mutual
def szS : St1 → Nat
 | .mk _ _ ix v _ b e=>szE ix+szE v+szSL b+szSL e
def szSL : List St1 → Nat
 | []=>0
 | s :: r=>(1+szS s)+szSL r
end
def szIL : List (List Int) → Nat
 | []=>0
 | a :: r=>(1+a.length)+szIL r
theorem szEL_eq : ∀ l : List Ex, szEL l = (l.map fun e => 1 + szE e).sum
 | []=>rfl
 | e :: r=>by simp only [szEL,List.map_cons,List.sum_cons,szEL_eq r]
theorem szSL_eq : ∀ l : List St1, szSL l = (l.map fun e => 1 + szS e).sum
 | []=>rfl
 | e :: r=>by simp only [szSL,List.map_cons,List.sum_cons,szSL_eq r]
theorem szIL_eq : ∀ l : List (List Int), szIL l = (l.map fun e => 1 + e.length).sum
 | []=>rfl
 | e :: r=>by simp only [szIL,List.map_cons,List.sum_cons,szIL_eq r]
def szP (p:Pg):Nat:=p.vars.length+p.arrays.length+szSL p.body
def szM (m:Mm):Nat:=m.vals.length+szIL m.arrays
def subZ (left:Int) (n:Nat):Int:=if (n:Int)≤left then left - n else -1
theorem sum_split {α : Type} (f : α → Nat) : ∀ l : List α, (l.map fun e => 1 + f e).sum = l.length + (l.map f).sum
 | []=>rfl
 | a :: r=>by simp only [List.map_cons,List.sum_cons,List.length_cons,sum_split f r];omega
theorem sum_take {α:Type} (f:α→Nat) {l:List α} {i:Nat} {x:α} (h:l[i]? = some x):((l.take (i+1)).map f).sum=((l.take i).map f).sum+f x∧((l.take i).map f).sum+f x≤(l.map f).sum:=by
 have hi:i<l.length:=(List.getElem?_eq_some_iff.1 h).1
 have hx:l[i]=x:=(List.getElem?_eq_some_iff.1 h).2
 have e:l.take (i+1)=l.take i++[x]:=by rw [List.take_succ_eq_append_getElem hi,hx]
 refine ⟨by rw [e];simp,?_⟩
 have e2:(l.map f).sum=((l.take (i+1)).map f).sum+((l.drop (i+1)).map f).sum:=by
  rw [← List.sum_append,← List.map_append,List.take_append_drop]
 rw [e2,e];simp
inductive ExB : Ex → Prop
 | mk (k v:Int) (ks:List Ex) (h:ks.length≤mx) (hk:∀ e ∈ ks,ExB e):ExB (.mk k v ks)
inductive StB : St1 → Prop
 | mk (k t:Int) (ix v:Ex) (c:Int) (b e:List St1) (h1:ExB ix) (h2:ExB v) (h3:b.length≤mx) (h4:e.length≤mx) (h5:∀ s ∈ b,StB s) (h6:∀ s ∈ e,StB s):StB (.mk k t ix v c b e)
structure PgB (p : Pg) : Prop where
 nv:p.vars.length≤mx
 na:p.arrays.length≤mx
 nb:p.body.length≤mx
 st:∀ s ∈ p.body,StB s
structure MmB (m : Mm) : Prop where
 nv:m.vals.length≤mx
 na:m.arrays.length≤mx
 ar:∀ a ∈ m.arrays,a.length≤mx
inductive ExN : Ex → Prop
 | mk (k v:Int) (ks:List Ex) (h:ks.length≤1048576) (hk:∀ e ∈ ks,ExN e):ExN (.mk k v ks)
inductive StN : St1 → Prop
 | mk (k t:Int) (ix v:Ex) (c:Int) (b e:List St1) (h1:ExN ix) (h2:ExN v) (h3:b.length≤1048576) (h4:e.length≤1048576) (h5:∀ s ∈ b,StN s) (h6:∀ s ∈ e,StN s):StN (.mk k t ix v c b e)
theorem mem_sum {α : Type} (f : α → Nat) : ∀ {l : List α} {x : α}, x ∈ l → f x + 1 ≤ (l.map fun e => 1 + f e).sum
 | a :: r,x,h=>by
  simp only [List.map_cons,List.sum_cons]
  rcases List.mem_cons.1 h with rfl | h
  ·omega
  ·have:=mem_sum f h;omega
theorem exN_of : ∀ (n : Nat) (e : Ex), SizeOf.sizeOf e ≤ n → szE e ≤ 1048576 → ExN e
 | 0,.mk k v ks,h,_=>by simp at h
 | n+1,.mk k v ks,h,hz=>by
  simp only [szE,szEL_eq] at hz
  have h1:=sum_split szE ks
  refine .mk k v ks (by omega) fun e he=>exN_of n e ?_ ?_
  ·have:=List.sizeOf_lt_of_mem he
   simp only [Ex.mk.sizeOf_spec] at h;omega
  ·have:=mem_sum szE he;omega
theorem stN_of : ∀ (n : Nat) (s : St1), SizeOf.sizeOf s ≤ n → szS s ≤ 1048576 → StN s
 | 0,.mk k t ix v c b e,h,_=>by simp at h
 | n+1,.mk k t ix v c b e,h,hz=>by
  simp only [szS,szSL_eq] at hz
  have h1:=sum_split szS b
  have h2:=sum_split szS e
  simp only [St1.mk.sizeOf_spec] at h
  refine .mk k t ix v c b e (exN_of _ ix (Nat.le_refl _) (by omega)) (exN_of _ v (Nat.le_refl _) (by omega)) (by omega) (by omega) (fun s hs=>stN_of n s ?_ ?_) (fun s hs=>stN_of n s ?_ ?_)
  ·have:=List.sizeOf_lt_of_mem hs;omega
  ·have:=mem_sum szS hs;omega
  ·have:=List.sizeOf_lt_of_mem hs;omega
  ·have:=mem_sum szS hs;omega
theorem put_at : ∀ (ds A B : List C), ds.length ≤ B.length → putCells (A ++ B) A.length ds = A ++ ds ++ B.drop ds.length
 | [],A,B,_=>by simp [putCells]
 | d :: r,A,[],h=>by simp at h
 | d :: r,A,b :: B,h=>by
  have e:(A++b :: B).set A.length d=(A++[d])++B:=by
   rw [List.set_append_right _ _ (Nat.le_refl _)];simp
  have ih:=put_at r (A++[d]) B (by simpa using h)
  simp only [putCells,e]
  rw [show A.length+1=(A++[d]).length by simp,ih]
  simp
theorem put_row {rows : List (List C)} {zs ds : List C} {m k i : Nat} (hz : zs.length = k) (hd : ds.length = k) (hr : (rows.flatten).length = i * k) :
 putCells (rows.flatten++(List.replicate (m+1) zs).flatten) (i * k) ds=(rows++[ds]).flatten++(List.replicate m zs).flatten:=by
 rw [← hr,put_at _ _ _ (by simp [List.replicate_succ,hz,hd])]
 simp [List.replicate_succ,hz,hd]
end Go.Proofs.YtmjkgjkkpaephaaGreat.CtD
