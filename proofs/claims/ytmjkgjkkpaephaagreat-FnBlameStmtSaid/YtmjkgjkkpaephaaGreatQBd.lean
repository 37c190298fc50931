/- Contracts of functions of the program, one behind the other, as plain data: what each call returns and which blocks it leaves. -/
import Derived.Test.YtmjkgjkkpaephaaGreatQFacts
import Derived.Test.YtmjkgjkkpaephaaGreatQAi
import Derived.Test.YtmjkgjkkpaephaaGreatQAj
import Derived.Test.YtmjkgjkkpaephaaGreatQAl
import Derived.Test.YtmjkgjkkpaephaaGreatQAp
import Derived.Test.YtmjkgjkkpaephaaGreatQAs
import Derived.Test.YtmjkgjkkpaephaaGreatQAt
import Derived.Test.YtmjkgjkkpaephaaGreatQAu
import Derived.Test.YtmjkgjkkpaephaaGreatQAv
import Derived.Test.YtmjkgjkkpaephaaGreatQAy
import Derived.Test.YtmjkgjkkpaephaaGreatQAz
import Derived.Test.YtmjkgjkkpaephaaGreatQBa
import Derived.Test.YtmjkgjkkpaephaaGreatQBc
import Derived.Test.YtmjkgjkkpaephaaGreatQAh
import Derived.Test.YtmjkgjkkpaephaaGreatQAo
import Derived.Test.YtmjkgjkkpaephaaGreatQAr
import Derived.Test.YtmjkgjkkpaephaaGreatQAk
set_option linter.unusedVariables false
set_option linter.unusedSimpArgs false
set_option maxHeartbeats 16000000
set_option maxRecDepth 100000
namespace Go.Proofs.YtmjkgjkkpaephaaGreat.CtD
open Go Go.CT CtF CtR
open CtL (In Cd codeOK runC blm blAt blmC)
theorem fdif_le : ∀ (xs ys : List Ev) (n : Int), fdif xs ys n ≤ n + xs.length ∨ fdif xs ys n = -1
 | [],[],n => .inr rfl
 | [],b :: r,n => .inl (by simp [fdif])
 | a :: r,[],n => .inl (by simp only [fdif,List.length_cons];omega)
 | a :: r,b :: s,n=>by
  simp only [fdif,List.length_cons]
  split
  ·rcases fdif_le r s (n+1) with h | h
   ·exact .inl (by omega)
   ·exact .inr h
  ·exact .inl (by omega)
theorem blameInstrS (c:Cd) (a b:Mm) (h1:c.vars.length≤1000000) (h2:c.arrays.length≤1000000) (h3:c.list.length≤100000000):DC Tryz.prog 33 [.agg (cdC c),.agg a.cells,.agg b.cells] [] (fun r h=>r=DI .i64 (blmC c a b)∧h=[]):=by
 have hmx:=mx_eq
 have hra:=runCodeS c a h1 h2 h3
 have hrb:=runCodeS c b h1 h2 h3
 have hla:=runC_len c a
 have hlb:=runC_len c b
 have ret:∀ (v:Int) (hp:Hp),v=blmC c a b→RetOb 0 (fun r h=>r=DI .i64 (blmC c a b)∧h=[]) (DI .i64 v) hp:=fun v hp h=>RetOb.plain (d:=DI .i64 _) ⟨by rw [h],rfl⟩ rfl
 generalize hR:(fun (r:D) (h:List (Option (List C)))=>r=DI .i64 (blmC c a b)∧h=[])=R at ret ⊢
 clear hR
 unfold blmC at ret
 generalize runC c a=X at *
 generalize runC c b=Y at *
 obtain ⟨⟨u1,u2⟩,t1,b1⟩:=X
 obtain ⟨⟨v1,v2⟩,t2,b2⟩:=Y
 simp only at hla hlb ret
 have hfd:=firstDifferenceG t1 t2 (by omega) (by omega)
 have hfg:=fdif_ge t1 t2 0 (by omega)
 have hfl:=fdif_le t1 t2 0
 generalize fdif t1 t2 0=k at *
 obtain ⟨vs,ar,l⟩:=c
 obtain ⟨va,arr⟩:=a
 obtain ⟨va',arr'⟩:=b
 unfold cdC at *
 simp only at *
 have hmx:=mx_eq
 cases b1 with
 | false =>
  refine dcZ Tryz.func33 ?_
  simp only [go_sem,Mm.cells]
  iterate 12 ((try (refine drvZ Tryz.func33 ?_;simp only [go_sem,Mm.cells]));((with_reducible and_intros)<;>try exact sd);(try first | refine XK.p hra ok73 ?_ | refine XK.gp hra ok73 ?_ | refine XK.p hrb ok73 ?_ | refine XK.gp hrb ok73 ?_ | refine XK.p hfd ok74 ?_ | refine XK.gp hfd ok74 ?_))
  exact ret _ _ (by simp)
 | true =>
  cases b2 with
  | false =>
   refine dcZ Tryz.func33 ?_
   simp only [go_sem,Mm.cells]
   iterate 12 ((try (refine drvZ Tryz.func33 ?_;simp only [go_sem,Mm.cells]));((with_reducible and_intros)<;>try exact sd);(try first | refine XK.p hra ok73 ?_ | refine XK.gp hra ok73 ?_ | refine XK.p hrb ok73 ?_ | refine XK.gp hrb ok73 ?_ | refine XK.p hfd ok74 ?_ | refine XK.gp hfd ok74 ?_))
   exact ret _ _ (by simp)
  | true =>
   by_cases hk:k<0
   ·have g1:(k<0)=True:=eq_true hk
    refine dcZ Tryz.func33 ?_
    simp only [go_sem,Mm.cells]
    iterate 12 ((try (refine drvZ Tryz.func33 ?_;simp only [go_sem,Mm.cells,g1]));((with_reducible and_intros)<;>try exact sd);(try first | refine XK.p hra ok73 ?_ | refine XK.gp hra ok73 ?_ | refine XK.p hrb ok73 ?_ | refine XK.gp hrb ok73 ?_ | refine XK.p hfd ok74 ?_ | refine XK.gp hfd ok74 ?_))
    exact ret _ _ (by rw [if_neg];omega)
   ·have g1:(k<0)=False:=eq_false hk
    obtain ⟨n,rfl⟩:∃ n:Nat,k=n:=⟨k.toNat,by omega⟩
    have hlb:=l15Blame t1 n (by omega) (by omega)
    refine dcZ Tryz.func33 ?_
    simp only [go_sem,Mm.cells]
    iterate 12 ((try (refine drvZ Tryz.func33 ?_;simp only [go_sem,Mm.cells,g1]));((with_reducible and_intros)<;>try exact sd);(try first | refine XK.p hra ok73 ?_ | refine XK.gp hra ok73 ?_ | refine XK.p hrb ok73 ?_ | refine XK.gp hrb ok73 ?_ | refine XK.p hfd ok74 ?_ | refine XK.gp hfd ok74 ?_ | refine XK.p hlb ok75 ?_ | refine XK.gp hlb ok75 ?_))
    exact ret _ _ (by rw [if_pos ⟨rfl,rfl,by omega⟩];rfl)
theorem blameInstrOf (c : Cd) (a b : Mm) (hra : DC Tryz.prog 24 [.agg (cdC c), .agg a.cells] [] (fun r h => r = .tup [.agg (runC c a).1.cells, .c (trD (runC c a).2.1), DB (runC c a).2.2] ∧ h = []))
 (hrb:DC Tryz.prog 24 [.agg (cdC c),.agg b.cells] [] (fun r h=>r = .tup [.agg (runC c b).1.cells,.c (trD (runC c b).2.1),DB (runC c b).2.2]∧h=[])) :
 DC Tryz.prog 39 [.agg (cdC c),.agg a.cells,.agg b.cells] [] (fun r h=>r=DI .i64 (blmC c a b)∧h=[]):=by
 have hmx:=mx_eq
 have hla:=runC_len c a
 have hlb:=runC_len c b
 have ret:∀ (v:Int) (hp:Hp),v=blmC c a b→RetOb 0 (fun r h=>r=DI .i64 (blmC c a b)∧h=[]) (DI .i64 v) hp:=fun v hp h=>RetOb.plain (d:=DI .i64 _) ⟨by rw [h],rfl⟩ rfl
 generalize hR:(fun (r:D) (h:List (Option (List C)))=>r=DI .i64 (blmC c a b)∧h=[])=R at ret ⊢
 clear hR
 unfold blmC at ret
 generalize runC c a=X at *
 generalize runC c b=Y at *
 obtain ⟨⟨u1,u2⟩,t1,b1⟩:=X
 obtain ⟨⟨v1,v2⟩,t2,b2⟩:=Y
 simp only at hla hlb ret
 have hfd:=firstDifference t1 t2 (by omega) (by omega)
 have hfg:=fdif_ge t1 t2 0 (by omega)
 have hfl:=fdif_le t1 t2 0
 generalize fdif t1 t2 0=k at *
 obtain ⟨vs,ar,l⟩:=c
 obtain ⟨va,arr⟩:=a
 obtain ⟨va',arr'⟩:=b
 unfold cdC at *
 simp only at *
 have hmx:=mx_eq
 cases b1 with
 | false =>
  refine dcZ Tryz.func39 ?_
  simp only [go_sem,Mm.cells]
  iterate 12 ((try (refine drvZ Tryz.func39 ?_;simp only [go_sem,Mm.cells]));((with_reducible and_intros)<;>try exact sd);(try first | refine XK.p hra ok24 ?_ | refine XK.gp hra ok24 ?_ | refine XK.p hrb ok24 ?_ | refine XK.gp hrb ok24 ?_ | refine XK.p hfd ok78 ?_ | refine XK.gp hfd ok78 ?_))
  exact ret _ _ (by simp)
 | true =>
  cases b2 with
  | false =>
   refine dcZ Tryz.func39 ?_
   simp only [go_sem,Mm.cells]
   iterate 12 ((try (refine drvZ Tryz.func39 ?_;simp only [go_sem,Mm.cells]));((with_reducible and_intros)<;>try exact sd);(try first | refine XK.p hra ok24 ?_ | refine XK.gp hra ok24 ?_ | refine XK.p hrb ok24 ?_ | refine XK.gp hrb ok24 ?_ | refine XK.p hfd ok78 ?_ | refine XK.gp hfd ok78 ?_))
   exact ret _ _ (by simp)
  | true =>
   by_cases hk:k<0
   ·have g1:(k<0)=True:=eq_true hk
    refine dcZ Tryz.func39 ?_
    simp only [go_sem,Mm.cells]
    iterate 12 ((try (refine drvZ Tryz.func39 ?_;simp only [go_sem,Mm.cells,g1]));((with_reducible and_intros)<;>try exact sd);(try first | refine XK.p hra ok24 ?_ | refine XK.gp hra ok24 ?_ | refine XK.p hrb ok24 ?_ | refine XK.gp hrb ok24 ?_ | refine XK.p hfd ok78 ?_ | refine XK.gp hfd ok78 ?_))
    exact ret _ _ (by rw [if_neg];omega)
   ·have g1:(k<0)=False:=eq_false hk
    obtain ⟨n,rfl⟩:∃ n:Nat,k=n:=⟨k.toNat,by omega⟩
    rw [if_pos ⟨rfl,rfl,by omega⟩,Int.toNat_natCast] at ret
    have hnl:n≤t1.length:=by omega
    have round:blAt t1 n≤t1.length:=by
     unfold blAt
     rcases Nat.lt_or_ge n t1.length with h | h
     ·rw [List.getElem?_eq_getElem h]
      simp only
      split<;>omega
     ·rw [List.getElem?_eq_none h];exact hnl
    rcases Nat.lt_or_ge n t1.length with hlt | hge
    ·obtain ⟨⟨kk,kv⟩,hx⟩:∃ x,t1[n]? = some x:=⟨t1[n],by simp [hlt]⟩
     have hnge:((t1.length:Int)≤(n:Int))=False:=eq_false (by omega)
     by_cases h5:kk=5
     ·subst h5
      have hb:blAt t1 n=n:=by simp [blAt,hx]
      refine dcZ Tryz.func39 ?_
      simp only [go_sem,Mm.cells]
      iterate 12 ((try (refine drvZ Tryz.func39 ?_;simp only [go_sem,Mm.cells,g1,hnge,hlt,hx,trD,Ev.cells]));((with_reducible and_intros)<;>try exact sd);(try first | refine XK.p hra ok24 ?_ | refine XK.gp hra ok24 ?_ | refine XK.p hrb ok24 ?_ | refine XK.gp hrb ok24 ?_ | refine XK.p hfd ok78 ?_ | refine XK.gp hfd ok78 ?_))
      refine Go.loopQ (fun j:Nat=>[(8,.c (trD t1)),(13,DI .i64 ((j:Int) - 1))]) (fun _=>[]) 4096 (fun j=>j≤blAt t1 n∧blm t1 j=blm t1 (blAt t1 n)) (fun j=>j) ?_ (blAt t1 n) some [] _ ⟨Nat.le_refl _,rfl⟩ ?_
      ·rintro j ⟨hj,hI⟩ again
       match j,hj,hI,again with
       | 0,hj,hI,again =>
        simp only [show ((0:Nat):Int) - 1 = -1 from rfl]
        rcases h0x:t1[0]? with _ | ⟨k0,v0⟩
        ·refine drvL Tryz.func39 ?_
         simp only [go_sem,trD,h0x]
         iterate 6 ((try (refine drvZ Tryz.func39 ?_;simp only [go_sem,trD,h0x]));((with_reducible and_intros)<;>try exact sd))
         exact ret _ _ hI
        ·refine drvL Tryz.func39 ?_
         simp only [go_sem,trD,h0x,Ev.cells]
         iterate 6 ((try (refine drvZ Tryz.func39 ?_;simp only [go_sem,trD,h0x,Ev.cells]));((with_reducible and_intros)<;>try exact sd))
         exact ret _ _ hI
       | j+1,hj,hI,again =>
        have h0:(0:Int)≤((j+1:Nat):Int) - 1:=by omega
        have h1:((j+1:Nat):Int) - 1=(j:Int):=by omega
        have h2:((j:Int)<0)=False:=eq_false (by omega)
        simp only [h1]
        have hjl:j<t1.length:=by omega
        obtain ⟨⟨k2,v⟩,hx2⟩:∃ x,t1[j]? = some x:=⟨t1[j],by simp [hjl]⟩
        by_cases hk5:k2=5
        ·subst hk5
         have hI2:v=blm t1 (blAt t1 n):=by rw [← hI];simp [blm,hx2]
         refine drvL Tryz.func39 ?_
         simp only [go_sem,trD,hjl,hx2,Ev.cells]
         iterate 6 ((try (refine drvZ Tryz.func39 ?_;simp only [go_sem,trD,hjl,hx2,Ev.cells,h2,bne_self_eq_false]));((with_reducible and_intros)<;>try exact sd))
         exact ret _ _ hI2
        ·have e52:(k2 != 5)=true:=by simp [hk5]
         have hI2:blm t1 j=blm t1 (blAt t1 n):=by rw [← hI];simp [blm,hx2,hk5]
         refine drvL Tryz.func39 ?_
         simp only [go_sem,trD,hjl,hx2,Ev.cells]
         iterate 6 ((try (refine drvZ Tryz.func39 ?_;simp only [go_sem,trD,hjl,hx2,Ev.cells,e52]));((with_reducible and_intros)<;>try exact sd))
         refine again j some [] _ ⟨by omega,hI2⟩ (by omega) ?_
         simp only [go_sem,TmOK,DM,DMs,CM,CMs,forall_eq,exists_eq_left,Mq,HpOK,LowOK,trD]
         try simp
      ·rw [hb]
       simp only [go_sem,TmOK,DM,DMs,CM,CMs,forall_eq,exists_eq_left,Mq,HpOK,LowOK,trD]
       try simp
     ·have e5:(kk == 5)=false:=by simp [h5]
      have hb:blAt t1 n=n+1:=by simp [blAt,hx,h5]
      refine dcZ Tryz.func39 ?_
      simp only [go_sem,Mm.cells]
      iterate 12 ((try (refine drvZ Tryz.func39 ?_;simp only [go_sem,Mm.cells,g1,hnge,hlt,hx,e5,trD,Ev.cells]));((with_reducible and_intros)<;>try exact sd);(try first | refine XK.p hra ok24 ?_ | refine XK.gp hra ok24 ?_ | refine XK.p hrb ok24 ?_ | refine XK.gp hrb ok24 ?_ | refine XK.p hfd ok78 ?_ | refine XK.gp hfd ok78 ?_))
      refine Go.loopQ (fun j:Nat=>[(8,.c (trD t1)),(13,DI .i64 ((j:Int) - 1))]) (fun _=>[]) 4096 (fun j=>j≤blAt t1 n∧blm t1 j=blm t1 (blAt t1 n)) (fun j=>j) ?_ (blAt t1 n) some [] _ ⟨Nat.le_refl _,rfl⟩ ?_
      ·rintro j ⟨hj,hI⟩ again
       match j,hj,hI,again with
       | 0,hj,hI,again =>
        simp only [show ((0:Nat):Int) - 1 = -1 from rfl]
        rcases h0x:t1[0]? with _ | ⟨k0,v0⟩
        ·refine drvL Tryz.func39 ?_
         simp only [go_sem,trD,h0x]
         iterate 6 ((try (refine drvZ Tryz.func39 ?_;simp only [go_sem,trD,h0x]));((with_reducible and_intros)<;>try exact sd))
         exact ret _ _ hI
        ·refine drvL Tryz.func39 ?_
         simp only [go_sem,trD,h0x,Ev.cells]
         iterate 6 ((try (refine drvZ Tryz.func39 ?_;simp only [go_sem,trD,h0x,Ev.cells]));((with_reducible and_intros)<;>try exact sd))
         exact ret _ _ hI
       | j+1,hj,hI,again =>
        have h0:(0:Int)≤((j+1:Nat):Int) - 1:=by omega
        have h1:((j+1:Nat):Int) - 1=(j:Int):=by omega
        have h2:((j:Int)<0)=False:=eq_false (by omega)
        simp only [h1]
        have hjl:j<t1.length:=by omega
        obtain ⟨⟨k2,v⟩,hx2⟩:∃ x,t1[j]? = some x:=⟨t1[j],by simp [hjl]⟩
        by_cases hk5:k2=5
        ·subst hk5
         have hI2:v=blm t1 (blAt t1 n):=by rw [← hI];simp [blm,hx2]
         refine drvL Tryz.func39 ?_
         simp only [go_sem,trD,hjl,hx2,Ev.cells]
         iterate 6 ((try (refine drvZ Tryz.func39 ?_;simp only [go_sem,trD,hjl,hx2,Ev.cells,h2,bne_self_eq_false]));((with_reducible and_intros)<;>try exact sd))
         exact ret _ _ hI2
        ·have e52:(k2 != 5)=true:=by simp [hk5]
         have hI2:blm t1 j=blm t1 (blAt t1 n):=by rw [← hI];simp [blm,hx2,hk5]
         refine drvL Tryz.func39 ?_
         simp only [go_sem,trD,hjl,hx2,Ev.cells]
         iterate 6 ((try (refine drvZ Tryz.func39 ?_;simp only [go_sem,trD,hjl,hx2,Ev.cells,e52]));((with_reducible and_intros)<;>try exact sd))
         refine again j some [] _ ⟨by omega,hI2⟩ (by omega) ?_
         simp only [go_sem,TmOK,DM,DMs,CM,CMs,forall_eq,exists_eq_left,Mq,HpOK,LowOK,trD]
         try simp
      ·rw [hb]
       simp only [go_sem,TmOK,DM,DMs,CM,CMs,forall_eq,exists_eq_left,Mq,HpOK,LowOK,trD]
       try simp
    ·have hb:blAt t1 n=n:=by simp [blAt,List.getElem?_eq_none hge]
     have hle:((t1.length:Int)≤(n:Int))=True:=eq_true (by omega)
     have hnone:=List.getElem?_eq_none hge
     refine dcZ Tryz.func39 ?_
     simp only [go_sem,Mm.cells]
     iterate 12 ((try (refine drvZ Tryz.func39 ?_;simp only [go_sem,Mm.cells,g1,hle,hnone,trD,Ev.cells]));((with_reducible and_intros)<;>try exact sd);(try first | refine XK.p hra ok24 ?_ | refine XK.gp hra ok24 ?_ | refine XK.p hrb ok24 ?_ | refine XK.gp hrb ok24 ?_ | refine XK.p hfd ok78 ?_ | refine XK.gp hfd ok78 ?_))
     refine Go.loopQ (fun j:Nat=>[(8,.c (trD t1)),(13,DI .i64 ((j:Int) - 1))]) (fun _=>[]) 4096 (fun j=>j≤blAt t1 n∧blm t1 j=blm t1 (blAt t1 n)) (fun j=>j) ?_ (blAt t1 n) some [] _ ⟨Nat.le_refl _,rfl⟩ ?_
     ·rintro j ⟨hj,hI⟩ again
      match j,hj,hI,again with
      | 0,hj,hI,again =>
       simp only [show ((0:Nat):Int) - 1 = -1 from rfl]
       rcases h0x:t1[0]? with _ | ⟨k0,v0⟩
       ·refine drvL Tryz.func39 ?_
        simp only [go_sem,trD,h0x]
        iterate 6 ((try (refine drvZ Tryz.func39 ?_;simp only [go_sem,trD,h0x]));((with_reducible and_intros)<;>try exact sd))
        exact ret _ _ hI
       ·refine drvL Tryz.func39 ?_
        simp only [go_sem,trD,h0x,Ev.cells]
        iterate 6 ((try (refine drvZ Tryz.func39 ?_;simp only [go_sem,trD,h0x,Ev.cells]));((with_reducible and_intros)<;>try exact sd))
        exact ret _ _ hI
      | j+1,hj,hI,again =>
       have h0:(0:Int)≤((j+1:Nat):Int) - 1:=by omega
       have h1:((j+1:Nat):Int) - 1=(j:Int):=by omega
       have h2:((j:Int)<0)=False:=eq_false (by omega)
       simp only [h1]
       have hjl:j<t1.length:=by omega
       obtain ⟨⟨k2,v⟩,hx2⟩:∃ x,t1[j]? = some x:=⟨t1[j],by simp [hjl]⟩
       by_cases hk5:k2=5
       ·subst hk5
        have hI2:v=blm t1 (blAt t1 n):=by rw [← hI];simp [blm,hx2]
        refine drvL Tryz.func39 ?_
        simp only [go_sem,trD,hjl,hx2,Ev.cells]
        iterate 6 ((try (refine drvZ Tryz.func39 ?_;simp only [go_sem,trD,hjl,hx2,Ev.cells,h2,bne_self_eq_false]));((with_reducible and_intros)<;>try exact sd))
        exact ret _ _ hI2
       ·have e52:(k2 != 5)=true:=by simp [hk5]
        have hI2:blm t1 j=blm t1 (blAt t1 n):=by rw [← hI];simp [blm,hx2,hk5]
        refine drvL Tryz.func39 ?_
        simp only [go_sem,trD,hjl,hx2,Ev.cells]
        iterate 6 ((try (refine drvZ Tryz.func39 ?_;simp only [go_sem,trD,hjl,hx2,Ev.cells,e52]));((with_reducible and_intros)<;>try exact sd))
        refine again j some [] _ ⟨by omega,hI2⟩ (by omega) ?_
        simp only [go_sem,TmOK,DM,DMs,CM,CMs,forall_eq,exists_eq_left,Mq,HpOK,LowOK,trD]
        try simp
     ·rw [hb]
      simp only [go_sem,TmOK,DM,DMs,CM,CMs,forall_eq,exists_eq_left,Mq,HpOK,LowOK,trD]
      try simp
end Go.Proofs.YtmjkgjkkpaephaaGreat.CtD
namespace Go.Proofs.YtmjkgjkkpaephaaGreat.CtD
open Go Go.CT CtF CtR
def bdR (r:D) (h:List (Option (List C))):Prop:=∃ (p:Pg) (m s m':Mm),r = .tup [.agg p.cells,.agg m.cells,.agg m'.cells]∧SmP p∧MemG p m∧MemG p s∧LowB 1 p.vars m.vals s.vals∧LowB 1 p.arrays m.arrays s.arrays∧Bnt s m'∧SmN m'∧h=[]
theorem drawBlameStmt (bs:List Int) (hb:Fits .u8 bs) (hl:bs.length≤mx):DC Tryz.prog 14 [bytesD bs] [] bdR:=by
 have hmx:=mx_eq
 have hop:=l17Open bs hl
 have hb':=fits_take hb 2000
 have hl':(bs.take 2000).length≤2000:=by rw [List.length_take];omega
 generalize hR:bdR=R
 generalize hbs:bs.take 2000=b2 at *
 unfold bytesD
 unfold bytesD at hop
 refine dcZ Tryz.func14 ?_
 simp only [go_sem]
 ((try (refine drvZ Tryz.func14 ?_;simp only [go_sem]));((with_reducible and_intros)<;>try exact sd))
 refine XK.callG [] hop ok44 (fun i' x h=>by simp at h) (hbT ()) (fun d h' ⟨_,e⟩=>by subst e;simp) ?_
 rintro _ _ ⟨rfl,rfl⟩ _
 iterate 2 ((try (refine drvZ Tryz.func14 ?_;simp only [go_sem,renCs_rdr]));((with_reducible and_intros)<;>try exact sd))
 have hty:=typed b2 0 hb' hl' (by omega)
 refine XK.callG [256] hty ok46 (hhp_one (by simp [upd,renCs_rdr])) (hbT ()) (fun d h' ⟨_,_,_,_,_,_,e⟩=>by subst e;simp) ?_
 rintro _ _ ⟨p0,rfl,hp0,n1,hn1,hn2,rfl⟩ _
 have hmu:=l2Mutate b2 n1 p0 hb' hl' (by omega) hp0
 obtain ⟨vs0,ar0,bd0⟩:=p0
 iterate 2 ((try (refine drvZ Tryz.func14 ?_;simp only [go_sem,renCs_rdr]));((with_reducible and_intros)<;>try exact sd))
 refine XK.callG [256] hmu ok45 (hhp_one (by simp [upd,renCs_rdr])) (hbT ()) (fun d h' ⟨_,_,_,_,_,_,e⟩=>by subst e;simp) ?_
 rintro _ _ ⟨p,rfl,hp,n2,hn3,hn4,rfl⟩ _
 have hpv:=hp.nv
 have hpa:=hp.na
 have hme:=l3MemoryG b2 n2 p hb' hl' (by omega) hpv hpa
 have hse:=fun n m h1 h2=>secretsG b2 n p m hb' hl' h1 h2 hpv hpa 1
 obtain ⟨vs,ar,bd⟩:=p
 simp only at hpv hpa
 iterate 2 ((try (refine drvZ Tryz.func14 ?_;simp only [go_sem,renCs_rdr]));((with_reducible and_intros)<;>try exact sd))
 refine XK.callG [256] hme ok47 (hhp_one (by simp [upd,renCs_rdr])) (hbT ()) (fun d h' ⟨_,_,_,_,_,_,e⟩=>by subst e;simp) ?_
 rintro _ _ ⟨m,rfl,hm,n3,hn5,hn6,rfl⟩ _
 have hse:=hse n3 m (by omega) hm
 obtain ⟨va,arr⟩:=m
 iterate 3 ((try (refine drvZ Tryz.func14 ?_;simp only [go_sem,renCs_rdr,Mm.cells]));((with_reducible and_intros)<;>try exact sd))
 refine XK.callG [256] hse ok48 (hhp_one (by simp [upd,renCs_rdr])) (hbT ()) (fun d h' ⟨_,_,_,_,_,_,_,_,e⟩=>by subst e;simp) ?_
 rintro _ _ ⟨s,rfl,hs,hb1,hb2,n4,hn7,hn8,rfl⟩ _
 have hbe:=l3BendB b2 n4 s hb' hl' (by omega) (by have:=hs.nv;simp only at this;omega) (by have:=hs.na;simp only at this;omega) (fun a h=>(hs.arr a h).1)
 obtain ⟨va2,arr2⟩:=s
 iterate 3 ((try (refine drvZ Tryz.func14 ?_;simp only [go_sem,renCs_rdr,Mm.cells]));((with_reducible and_intros)<;>try exact sd))
 have hsn:SmN ⟨va2,arr2⟩:=⟨by have:=hs.nv;simp only at this ⊢;omega,by have:=hs.na;simp only at this ⊢;omega,fun a h=>by have:=(hs.arr a h).1;omega⟩
 refine XK.callG [256] hbe ok49 (hhp_one (by simp [upd,renCs_rdr])) (hbT ()) (fun d h' ⟨_,_,_,_,_,_,_,e⟩=>by subst e;simp) ?_ (fun _=>⟨by kernel_rfl,_,_,⟨⟨va2,arr2⟩,rfl,hsn,Bnt.refl _,n4,by omega,by omega,rfl⟩,by simp⟩)
 rintro _ _ ⟨m',rfl,hm',hbn,n5,hn9,hn10,rfl⟩ _
 obtain ⟨va3,arr3⟩:=m'
 iterate 3 ((try (refine drvZ Tryz.func14 ?_;simp only [go_sem,renCs_rdr,Mm.cells]));((with_reducible and_intros)<;>try exact sd))
 refine RetOb.ofQ (fun _=>none) [] (.tup [.agg (Pg.cells ⟨vs,ar,bd⟩),.agg (Mm.cells ⟨va,arr⟩),.agg (Mm.cells ⟨va3,arr3⟩)]) [] ?_ (by rw [← hR];exact ⟨_,_,_,_,rfl,hp,hm,hs,hb1,hb2,hbn,hm',rfl⟩) (by simp)
 simp [enumL,DM,DMs,CM,CMs,HpOK,LowOK,hOf,Pg.cells,Mm.cells,isI]
end Go.Proofs.YtmjkgjkkpaephaaGreat.CtD
namespace Go.Proofs.YtmjkgjkkpaephaaGreat.CtD
open Go Go.CT CtF CtR
open CtL (In Cd codeOK runC blmC compP compL blmC_law)
theorem blm_rng {p:Pg} {a b:Mm} (hok:progOK p=true):blmC ⟨p.vars,p.arrays,compL p⟩ a b = -1∨∃ pc:Nat,blmC ⟨p.vars,p.arrays,compL p⟩ a b=pc∧pc<(ownL p).length:=by
 rcases blmC_law ⟨p.vars,p.arrays,compL p⟩ a b with ⟨e,_⟩ | ⟨pc,e,_,_,_,_,hpc,_⟩
 ·exact .inl e
 ·exact .inr ⟨pc,e,by rw [ownL_len hok];exact hpc⟩
theorem blameStmtS (p:Pg) (a b:Mm) (hv:p.vars.length≤1000000) (ha:p.arrays.length≤1000000) (hz:lsize 5 p.body≤1099511627776):DC Tryz.prog 8 [.agg p.cells,.agg a.cells,.agg b.cells] [] (fun r h=>r=DI .i64 (bsP p a b)∧h=[]):=by
 have hci:=compProgS p hv ha hz
 have hcm:=compMapS p hv ha hz
 have ret:∀ (v:Int) (hp:Hp),v=bsP p a b→RetOb 0 (fun r h=>r=DI .i64 (bsP p a b)∧h=[]) (DI .i64 v) hp:=fun v hp h=>RetOb.plain (d:=DI .i64 _) ⟨by rw [h],rfl⟩ rfl
 generalize hR:(fun (r:D) (h:List (Option (List C)))=>r=DI .i64 (bsP p a b)∧h=[])=R at ret ⊢
 clear hR
 unfold bsP at ret
 rcases compP_cases p with hc | ⟨hok,hlen,hc⟩
 ·rw [hc] at hci hcm ret
  simp only [cdC,ints,List.map_nil] at hci
  have hmx:=mx_eq
  clear hcm
  obtain ⟨vs,ar,bd⟩:=p
  obtain ⟨va,arr⟩:=a
  obtain ⟨va',arr'⟩:=b
  refine dcZ Tryz.func8 ?_
  simp only [go_sem,Mm.cells]
  iterate 6 ((try (refine drvZ Tryz.func8 ?_;simp only [go_sem,Mm.cells]));((with_reducible and_intros)<;>try exact sd);(try first | refine XK.p hci ok32 ?_ | refine XK.gp hci ok32 ?_))
  exact ret _ _ (by simp)
 ·have hmp:mapP p=ownL p:=if_pos (by rw [hc])
  have hbr:=blm_rng (a:=a) (b:=b) hok
  have hlc:=CtL.compL_len hok
  have hbi:=blameInstrS ⟨p.vars,p.arrays,compL p⟩ a b hv ha (by simp only;omega)
  rw [hc] at hci hcm ret
  rw [hmp] at hcm ret
  simp only at ret
  simp only [cdC,ints] at hci hbi
  generalize blmC ⟨p.vars,p.arrays,compL p⟩ a b=k at *
  generalize compL p=B at *
  generalize ownL p=W at *
  have hmx:=mx_eq
  obtain ⟨vs,ar,bd⟩:=p
  obtain ⟨va,arr⟩:=a
  obtain ⟨va',arr'⟩:=b
  rcases hbr with rfl | ⟨n,rfl,hn⟩
  ·refine dcZ Tryz.func8 ?_
   simp only [go_sem,Mm.cells]
   iterate 8 ((try (refine drvZ Tryz.func8 ?_;simp only [go_sem,Mm.cells]));((with_reducible and_intros)<;>try exact sd);(try first | refine XK.p hci ok32 ?_ | refine XK.gp hci ok32 ?_ | refine XK.p hbi ok33 ?_ | refine XK.gp hbi ok33 ?_))
   exact ret _ _ (by simp)
  ·have g1:((n:Int)<0)=False:=eq_false (by omega)
   obtain ⟨x,hx⟩:∃ x,W[n]? = some x:=⟨W[n],by simp [hn]⟩
   refine dcZ Tryz.func8 ?_
   simp only [go_sem,Mm.cells]
   iterate 10 ((try (refine drvZ Tryz.func8 ?_;simp only [go_sem,Mm.cells,g1,hn,hx,List.length_map]));((with_reducible and_intros)<;>try exact sd);(try first | refine XK.p hci ok32 ?_ | refine XK.gp hci ok32 ?_ | refine XK.p hbi ok33 ?_ | refine XK.gp hbi ok33 ?_ | refine XK.p hcm ok34 ?_ | refine XK.gp hcm ok34 ?_))
   refine ret _ _ ?_
   rw [if_pos ⟨trivial,by omega⟩,Int.toNat_natCast,List.getD_eq_getElem?_getD,hx]
   rfl
theorem blameStmtI (p:Pg) (a b:Mm) (hv:p.vars.length≤1000000) (ha:p.arrays.length≤1000000):DC Tryz.prog 11 [.agg p.cells,.agg a.cells,.agg b.cells] [] (fun r h=>r=DI .i64 (bsP p a b)∧h=[]):=by
 have hci:=compProgIA p hv ha
 have hcm:=compMapI p hv ha
 have ret:∀ (v:Int) (hp:Hp),v=bsP p a b→RetOb 0 (fun r h=>r=DI .i64 (bsP p a b)∧h=[]) (DI .i64 v) hp:=fun v hp h=>RetOb.plain (d:=DI .i64 _) ⟨by rw [h],rfl⟩ rfl
 generalize hR:(fun (r:D) (h:List (Option (List C)))=>r=DI .i64 (bsP p a b)∧h=[])=R at ret ⊢
 clear hR
 unfold bsP at ret
 rcases compP_cases p with hc | ⟨hok,hlen,hc⟩
 ·rw [hc] at hci hcm ret
  simp only [cdC,ints,List.map_nil] at hci
  have hmx:=mx_eq
  clear hcm
  obtain ⟨vs,ar,bd⟩:=p
  obtain ⟨va,arr⟩:=a
  obtain ⟨va',arr'⟩:=b
  refine dcZ Tryz.func11 ?_
  simp only [go_sem,Mm.cells]
  iterate 6 ((try (refine drvZ Tryz.func11 ?_;simp only [go_sem,Mm.cells]));((with_reducible and_intros)<;>try exact sd);(try first | refine XK.p hci ok38 ?_ | refine XK.gp hci ok38 ?_))
  exact ret _ _ (by simp)
 ·have hmp:mapP p=ownL p:=if_pos (by rw [hc])
  have hbr:=blm_rng (a:=a) (b:=b) hok
  have hcv:=CtL.comp_valid hok hlen
  have hbi:=blameInstrOf ⟨p.vars,p.arrays,compL p⟩ a b (runCodeI _ a hcv) (runCodeI _ b hcv)
  rw [hc] at hci hcm ret
  rw [hmp] at hcm ret
  simp only at ret
  simp only [cdC,ints] at hci hbi
  clear hcv
  generalize blmC ⟨p.vars,p.arrays,compL p⟩ a b=k at *
  generalize compL p=B at *
  generalize ownL p=W at *
  have hmx:=mx_eq
  obtain ⟨vs,ar,bd⟩:=p
  obtain ⟨va,arr⟩:=a
  obtain ⟨va',arr'⟩:=b
  rcases hbr with rfl | ⟨n,rfl,hn⟩
  ·refine dcZ Tryz.func11 ?_
   simp only [go_sem,Mm.cells]
   iterate 8 ((try (refine drvZ Tryz.func11 ?_;simp only [go_sem,Mm.cells]));((with_reducible and_intros)<;>try exact sd);(try first | refine XK.p hci ok38 ?_ | refine XK.gp hci ok38 ?_ | refine XK.p hbi ok39 ?_ | refine XK.gp hbi ok39 ?_))
   exact ret _ _ (by simp)
  ·have g1:((n:Int)<0)=False:=eq_false (by omega)
   obtain ⟨x,hx⟩:∃ x,W[n]? = some x:=⟨W[n],by simp [hn]⟩
   refine dcZ Tryz.func11 ?_
   simp only [go_sem,Mm.cells]
   iterate 10 ((try (refine drvZ Tryz.func11 ?_;simp only [go_sem,Mm.cells,g1,hn,hx,List.length_map]));((with_reducible and_intros)<;>try exact sd);(try first | refine XK.p hci ok38 ?_ | refine XK.gp hci ok38 ?_ | refine XK.p hbi ok39 ?_ | refine XK.gp hbi ok39 ?_ | refine XK.p hcm ok40 ?_ | refine XK.gp hcm ok40 ?_))
   refine ret _ _ ?_
   rw [if_pos ⟨trivial,by omega⟩,Int.toNat_natCast,List.getD_eq_getElem?_getD,hx]
   rfl
end Go.Proofs.YtmjkgjkkpaephaaGreat.CtD
namespace Go.Proofs.YtmjkgjkkpaephaaGreat.CtD
open Go Go.CT CtF CtR
theorem lawBStmt (bs:List Int) (hb:Fits .u8 bs) (hl:bs.length≤mx):DC Tryz.prog 4 [bytesD bs] [] (fun d h=>d=DB true∧h=[]):=by
 have hmx:=mx_eq
 have hdr:=drawBlameStmt bs hb hl
 unfold bytesD
 unfold bytesD at hdr
 have ret:∀ hp:Hp,RetOb 0 (fun d h=>d=DB true∧h=[]) (DB true) hp:=fun hp=>RetOb.plain (d:=DB true) ⟨rfl,rfl⟩ rfl
 generalize hRR:(fun (d:D) (h:List (Option (List C)))=>d=DB true∧h=[])=R at ret ⊢
 by_cases hbig:1048576<bs.length
 ·have hz:((1048576:Int)<(bs.length:Int))=True:=eq_true (by omega)
  refine dcZ Tryz.func4 ?_
  simp only [go_sem,hz]
  iterate 3 ((try (refine drvZ Tryz.func4 ?_;simp only [go_sem,hz]));((with_reducible and_intros)<;>try exact sd))
  exact ret _
 have hz:((1048576:Int)<(bs.length:Int))=False:=eq_false (by omega)
 refine dcZ Tryz.func4 ?_
 simp only [go_sem,hz]
 iterate 3 ((try (refine drvZ Tryz.func4 ?_;simp only [go_sem,hz]));((with_reducible and_intros)<;>try exact sd))
 refine XK.callG [] hdr ok14 (fun i' x h=>by simp at h) (hbT ()) (fun d h' ⟨_,_,_,_,_,_,_,_,_,_,_,_,e⟩=>by subst e;simp) ?_
 rintro _ _ ⟨p,m,s,m',rfl,hp,hm,hs,hb1,hb2,hbn,hm',rfl⟩ _
 clear hdr
 have h1:=hp.nv
 have h2:=hp.na
 have h4:=hp.sz 5
 have hbi:=blameStmtI p m m' (by omega) (by omega)
 have hbs:=blameStmtS p m m' (by omega) (by omega) (by omega)
 have hci:=checkCTI p (by omega) (by omega)
 have hfr:=releaseFree p (by omega) (by omega)
 have hcn:=countStmts p (by omega) (by omega)
 have hlaw:=bs_law hm hs hb1 hb2 hbn
 generalize bsP p m m'=k at *
 generalize cntP p=n at *
 generalize strictR p=x at *
 generalize freeP p=f at *
 obtain ⟨x1,x2⟩:=x
 simp only at hlaw
 obtain ⟨vs,ar,bd⟩:=p
 obtain ⟨va,arr⟩:=m
 obtain ⟨va',arr'⟩:=m'
 rcases hlaw with rfl | ⟨k0,k1,k2⟩
 ·iterate 14 ((try (refine drvZ Tryz.func4 ?_;simp only [go_sem,Mm.cells,bne_self_eq_false,beq_self_eq_true]));((with_reducible and_intros)<;>try exact sd);(try first | refine XK.p hbi ok11 ?_ | refine XK.gp hbi ok11 ?_ | refine XK.p hbs ok8 ?_ | refine XK.gp hbs ok8 ?_))
  exact ret _
 ·have g1:(k<0)=False:=eq_false (by omega)
  have g2:(k<(n:Int))=True:=eq_true k1
  by_cases hx:x1=0
  ·subst hx
   have hf:=k2 rfl
   subst hf
   iterate 24 ((try (refine drvZ Tryz.func4 ?_;simp only [go_sem,Mm.cells,bne_self_eq_false,beq_self_eq_true,g1,g2]));((with_reducible and_intros)<;>try exact sd);(try first | refine XK.p hbi ok11 ?_ | refine XK.gp hbi ok11 ?_ | refine XK.p hbs ok8 ?_ | refine XK.gp hbs ok8 ?_ | refine XK.p hci ok15 ?_ | refine XK.gp hci ok15 ?_ | refine XK.p hcn ok16 ?_ | refine XK.gp hcn ok16 ?_ | refine XK.p hfr ok17 ?_ | refine XK.gp hfr ok17 ?_))
   exact ret _
  ·have g3:(x1 != 0)=true:=by simp [hx]
   iterate 24 ((try (refine drvZ Tryz.func4 ?_;simp only [go_sem,Mm.cells,bne_self_eq_false,beq_self_eq_true,g1,g2,g3]));((with_reducible and_intros)<;>try exact sd);(try first | refine XK.p hbi ok11 ?_ | refine XK.gp hbi ok11 ?_ | refine XK.p hbs ok8 ?_ | refine XK.gp hbs ok8 ?_ | refine XK.p hci ok15 ?_ | refine XK.gp hci ok15 ?_ | refine XK.p hcn ok16 ?_ | refine XK.gp hcn ok16 ?_ | refine XK.p hfr ok17 ?_ | refine XK.gp hfr ok17 ?_ | refine XK.gs (DB false) ?_))
   exact ret _
end Go.Proofs.YtmjkgjkkpaephaaGreat.CtD
