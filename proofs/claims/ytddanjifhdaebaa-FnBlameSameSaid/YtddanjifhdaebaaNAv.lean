/- Contracts of functions of the program, one behind the other, as plain data: what each call returns and which blocks it leaves. -/
import Derived.Test.YtddanjifhdaebaaNFacts
import Derived.Test.YtddanjifhdaebaaNAi
import Derived.Test.YtddanjifhdaebaaNAk
import Derived.Test.YtddanjifhdaebaaNAm
import Derived.Test.YtddanjifhdaebaaNAo
import Derived.Test.YtddanjifhdaebaaNAq
import Derived.Test.YtddanjifhdaebaaNAr
import Derived.Test.YtddanjifhdaebaaNAu
import Derived.Test.YtddanjifhdaebaaNAj
import Derived.Test.YtddanjifhdaebaaNAn
set_option linter.unusedVariables false
set_option linter.unusedSimpArgs false
set_option linter.unusedSectionVars false
set_option maxHeartbeats 16000000
set_option maxRecDepth 100000
namespace Go.Proofs.Ytddanjifhdaebaa.CtD
open Go Go.CT CtF CtR
variable [Yn]
open CtL (In Cd codeOK runC blm blAt blmC)
theorem fdif_le : ∀ (xs ys : List Ev) (n : Int), fdif xs ys n ≤ n + xs.length ∨ fdif xs ys n = -1
 | [],[],n => .inr rfl
 | [],b :: r,n => .inl (by simp [fdif])
 | a :: r,[],n => .inl (by simp only [fdif,List.length_cons];omega)
 | a :: r,b :: s,n=>by
  simp only [fdif,List.length_cons]
  split
  ·rcases fdif_le r s (n+1) with h | h
   ·exact .inl (by omega)
   ·exact .inr h
  ·exact .inl (by omega)
theorem blameInstrS (c:Cd) (a b:Mm) (h1:c.vars.length≤2000000) (h2:c.arrays.length≤2000000) (h3:c.list.length≤100000000):DC Try.prog 55 [.agg (cdC c),.agg a.cells,.agg b.cells] [] (fun r h=>r=DI .i64 (blmC c a b)∧h=[]):=by
 have hmx:=mx_eq
 have hra:=runCodeS c a h1 h2 h3
 have hrb:=runCodeS c b h1 h2 h3
 have hla:=runC_len c a
 have hlb:=runC_len c b
 have ret:∀ (v:Int) (hp:Hp),v=blmC c a b→RetOb 0 (fun r h=>r=DI .i64 (blmC c a b)∧h=[]) (DI .i64 v) hp:=fun v hp h=>RetOb.plain (d:=DI .i64 _) ⟨by rw [h],rfl⟩ rfl
 generalize hR:(fun (r:D) (h:List (Option (List C)))=>r=DI .i64 (blmC c a b)∧h=[])=R at ret ⊢
 clear hR
 unfold blmC at ret
 generalize runC c a=X at *
 generalize runC c b=Y at *
 obtain ⟨⟨u1,u2⟩,t1,b1⟩:=X
 obtain ⟨⟨v1,v2⟩,t2,b2⟩:=Y
 simp only at hla hlb ret
 have hfd:=firstDifferenceG t1 t2 (by omega) (by omega)
 have hfg:=fdif_ge t1 t2 0 (by omega)
 have hfl:=fdif_le t1 t2 0
 generalize fdif t1 t2 0=k at *
 obtain ⟨vs,ar,l⟩:=c
 obtain ⟨va,arr⟩:=a
 obtain ⟨va',arr'⟩:=b
 unfold cdC at *
 simp only at *
 have hmx:=mx_eq
 cases b1 with
 | false =>
  refine dcZ Try.func55 ?_
  simp only [go_sem,Mm.cells]
  iterate 12 ((try (refine drvZ Try.func55 ?_;simp only [go_sem,Mm.cells]));((with_reducible and_intros)<;>try exact sd);(try first | refine XK.p hra ok69 ?_ | refine XK.gp hra ok69 ?_ | refine XK.p hrb ok69 ?_ | refine XK.gp hrb ok69 ?_ | refine XK.p hfd ok113 ?_ | refine XK.gp hfd ok113 ?_))
  exact ret _ _ (by simp)
 | true =>
  cases b2 with
  | false =>
   refine dcZ Try.func55 ?_
   simp only [go_sem,Mm.cells]
   iterate 12 ((try (refine drvZ Try.func55 ?_;simp only [go_sem,Mm.cells]));((with_reducible and_intros)<;>try exact sd);(try first | refine XK.p hra ok69 ?_ | refine XK.gp hra ok69 ?_ | refine XK.p hrb ok69 ?_ | refine XK.gp hrb ok69 ?_ | refine XK.p hfd ok113 ?_ | refine XK.gp hfd ok113 ?_))
   exact ret _ _ (by simp)
  | true =>
   by_cases hk:k<0
   ·have g1:(k<0)=True:=eq_true hk
    refine dcZ Try.func55 ?_
    simp only [go_sem,Mm.cells]
    iterate 12 ((try (refine drvZ Try.func55 ?_;simp only [go_sem,Mm.cells,g1]));((with_reducible and_intros)<;>try exact sd);(try first | refine XK.p hra ok69 ?_ | refine XK.gp hra ok69 ?_ | refine XK.p hrb ok69 ?_ | refine XK.gp hrb ok69 ?_ | refine XK.p hfd ok113 ?_ | refine XK.gp hfd ok113 ?_))
    exact ret _ _ (by rw [if_neg];omega)
   ·have g1:(k<0)=False:=eq_false hk
    obtain ⟨n,rfl⟩:∃ n:Nat,k=n:=⟨k.toNat,by omega⟩
    have hlb:=l15Blame t1 n (by omega) (by omega)
    refine dcZ Try.func55 ?_
    simp only [go_sem,Mm.cells]
    iterate 12 ((try (refine drvZ Try.func55 ?_;simp only [go_sem,Mm.cells,g1]));((with_reducible and_intros)<;>try exact sd);(try first | refine XK.p hra ok69 ?_ | refine XK.gp hra ok69 ?_ | refine XK.p hrb ok69 ?_ | refine XK.gp hrb ok69 ?_ | refine XK.p hfd ok113 ?_ | refine XK.gp hfd ok113 ?_ | refine XK.p hlb ok114 ?_ | refine XK.gp hlb ok114 ?_))
    exact ret _ _ (by rw [if_pos ⟨rfl,rfl,by omega⟩];rfl)
theorem blameInstrOf (c : Cd) (a b : Mm) (hra : DC Try.prog 58 [.agg (cdC c), .agg a.cells] [] (fun r h => r = .tup [.agg (runC c a).1.cells, .c (trD (runC c a).2.1), DB (runC c a).2.2] ∧ h = []))
 (hrb:DC Try.prog 58 [.agg (cdC c),.agg b.cells] [] (fun r h=>r = .tup [.agg (runC c b).1.cells,.c (trD (runC c b).2.1),DB (runC c b).2.2]∧h=[])) :
 DC Try.prog 54 [.agg (cdC c),.agg a.cells,.agg b.cells] [] (fun r h=>r=DI .i64 (blmC c a b)∧h=[]):=by
 have hmx:=mx_eq
 have hla:=runC_len c a
 have hlb:=runC_len c b
 have ret:∀ (v:Int) (hp:Hp),v=blmC c a b→RetOb 0 (fun r h=>r=DI .i64 (blmC c a b)∧h=[]) (DI .i64 v) hp:=fun v hp h=>RetOb.plain (d:=DI .i64 _) ⟨by rw [h],rfl⟩ rfl
 generalize hR:(fun (r:D) (h:List (Option (List C)))=>r=DI .i64 (blmC c a b)∧h=[])=R at ret ⊢
 clear hR
 unfold blmC at ret
 generalize runC c a=X at *
 generalize runC c b=Y at *
 obtain ⟨⟨u1,u2⟩,t1,b1⟩:=X
 obtain ⟨⟨v1,v2⟩,t2,b2⟩:=Y
 simp only at hla hlb ret
 have hfd:=firstDifference t1 t2 (by omega) (by omega)
 have hfg:=fdif_ge t1 t2 0 (by omega)
 have hfl:=fdif_le t1 t2 0
 generalize fdif t1 t2 0=k at *
 obtain ⟨vs,ar,l⟩:=c
 obtain ⟨va,arr⟩:=a
 obtain ⟨va',arr'⟩:=b
 unfold cdC at *
 simp only at *
 have hmx:=mx_eq
 cases b1 with
 | false =>
  refine dcZ Try.func54 ?_
  simp only [go_sem,Mm.cells]
  iterate 12 ((try (refine drvZ Try.func54 ?_;simp only [go_sem,Mm.cells]));((with_reducible and_intros)<;>try exact sd);(try first | refine XK.p hra ok58 ?_ | refine XK.gp hra ok58 ?_ | refine XK.p hrb ok58 ?_ | refine XK.gp hrb ok58 ?_ | refine XK.p hfd ok112 ?_ | refine XK.gp hfd ok112 ?_))
  exact ret _ _ (by simp)
 | true =>
  cases b2 with
  | false =>
   refine dcZ Try.func54 ?_
   simp only [go_sem,Mm.cells]
   iterate 12 ((try (refine drvZ Try.func54 ?_;simp only [go_sem,Mm.cells]));((with_reducible and_intros)<;>try exact sd);(try first | refine XK.p hra ok58 ?_ | refine XK.gp hra ok58 ?_ | refine XK.p hrb ok58 ?_ | refine XK.gp hrb ok58 ?_ | refine XK.p hfd ok112 ?_ | refine XK.gp hfd ok112 ?_))
   exact ret _ _ (by simp)
  | true =>
   by_cases hk:k<0
   ·have g1:(k<0)=True:=eq_true hk
    refine dcZ Try.func54 ?_
    simp only [go_sem,Mm.cells]
    iterate 12 ((try (refine drvZ Try.func54 ?_;simp only [go_sem,Mm.cells,g1]));((with_reducible and_intros)<;>try exact sd);(try first | refine XK.p hra ok58 ?_ | refine XK.gp hra ok58 ?_ | refine XK.p hrb ok58 ?_ | refine XK.gp hrb ok58 ?_ | refine XK.p hfd ok112 ?_ | refine XK.gp hfd ok112 ?_))
    exact ret _ _ (by rw [if_neg];omega)
   ·have g1:(k<0)=False:=eq_false hk
    obtain ⟨n,rfl⟩:∃ n:Nat,k=n:=⟨k.toNat,by omega⟩
    rw [if_pos ⟨rfl,rfl,by omega⟩,Int.toNat_natCast] at ret
    have hnl:n≤t1.length:=by omega
    have round:blAt t1 n≤t1.length:=by
     unfold blAt
     rcases Nat.lt_or_ge n t1.length with h | h
     ·rw [List.getElem?_eq_getElem h]
      simp only
      split<;>omega
     ·rw [List.getElem?_eq_none h];exact hnl
    rcases Nat.lt_or_ge n t1.length with hlt | hge
    ·obtain ⟨⟨kk,kv⟩,hx⟩:∃ x,t1[n]? = some x:=⟨t1[n],by simp [hlt]⟩
     have hnge:((t1.length:Int)≤(n:Int))=False:=eq_false (by omega)
     by_cases h5:kk=5
     ·subst h5
      have hb:blAt t1 n=n:=by simp [blAt,hx]
      refine dcZ Try.func54 ?_
      simp only [go_sem,Mm.cells]
      iterate 12 ((try (refine drvZ Try.func54 ?_;simp only [go_sem,Mm.cells,g1,hnge,hlt,hx,trD,Ev.cells]));((with_reducible and_intros)<;>try exact sd);(try first | refine XK.p hra ok58 ?_ | refine XK.gp hra ok58 ?_ | refine XK.p hrb ok58 ?_ | refine XK.gp hrb ok58 ?_ | refine XK.p hfd ok112 ?_ | refine XK.gp hfd ok112 ?_))
      refine Go.loopQ (fun j:Nat=>[(8,.c (trD t1)),(13,DI .i64 ((j:Int) - 1))]) (fun _=>[]) 4096 (fun j=>j≤blAt t1 n∧blm t1 j=blm t1 (blAt t1 n)) (fun j=>j) ?_ (blAt t1 n) some [] _ ⟨Nat.le_refl _,rfl⟩ ?_
      ·rintro j ⟨hj,hI⟩ again
       match j,hj,hI,again with
       | 0,hj,hI,again =>
        simp only [show ((0:Nat):Int) - 1 = -1 from rfl]
        rcases h0x:t1[0]? with _ | ⟨k0,v0⟩
        ·refine drvL Try.func54 ?_
         simp only [go_sem,trD,h0x]
         iterate 6 ((try (refine drvZ Try.func54 ?_;simp only [go_sem,trD,h0x]));((with_reducible and_intros)<;>try exact sd))
         exact ret _ _ hI
        ·refine drvL Try.func54 ?_
         simp only [go_sem,trD,h0x,Ev.cells]
         iterate 6 ((try (refine drvZ Try.func54 ?_;simp only [go_sem,trD,h0x,Ev.cells]));((with_reducible and_intros)<;>try exact sd))
         exact ret _ _ hI
       | j+1,hj,hI,again =>
        have h0:(0:Int)≤((j+1:Nat):Int) - 1:=by omega
        have h1:((j+1:Nat):Int) - 1=(j:Int):=by omega
        have h2:((j:Int)<0)=False:=eq_false (by omega)
        simp only [h1]
        have hjl:j<t1.length:=by omega
        obtain ⟨⟨k2,v⟩,hx2⟩:∃ x,t1[j]? = some x:=⟨t1[j],by simp [hjl]⟩
        by_cases hk5:k2=5
        ·subst hk5
         have hI2:v=blm t1 (blAt t1 n):=by rw [← hI];simp [blm,hx2]
         refine drvL Try.func54 ?_
         simp only [go_sem,trD,hjl,hx2,Ev.cells]
         iterate 6 ((try (refine drvZ Try.func54 ?_;simp only [go_sem,trD,hjl,hx2,Ev.cells,h2,bne_self_eq_false]));((with_reducible and_intros)<;>try exact sd))
         exact ret _ _ hI2
        ·have e52:(k2 != 5)=true:=by simp [hk5]
         have hI2:blm t1 j=blm t1 (blAt t1 n):=by rw [← hI];simp [blm,hx2,hk5]
         refine drvL Try.func54 ?_
         simp only [go_sem,trD,hjl,hx2,Ev.cells]
         iterate 6 ((try (refine drvZ Try.func54 ?_;simp only [go_sem,trD,hjl,hx2,Ev.cells,e52]));((with_reducible and_intros)<;>try exact sd))
         refine again j some [] _ ⟨by omega,hI2⟩ (by omega) ?_
         simp only [go_sem,TmOK,DM,DMs,CM,CMs,forall_eq,exists_eq_left,Mq,HpOK,LowOK,trD]
         try simp
      ·rw [hb]
       simp only [go_sem,TmOK,DM,DMs,CM,CMs,forall_eq,exists_eq_left,Mq,HpOK,LowOK,trD]
       try simp
     ·have e5:(kk == 5)=false:=by simp [h5]
      have hb:blAt t1 n=n+1:=by simp [blAt,hx,h5]
      refine dcZ Try.func54 ?_
      simp only [go_sem,Mm.cells]
      iterate 12 ((try (refine drvZ Try.func54 ?_;simp only [go_sem,Mm.cells,g1,hnge,hlt,hx,e5,trD,Ev.cells]));((with_reducible and_intros)<;>try exact sd);(try first | refine XK.p hra ok58 ?_ | refine XK.gp hra ok58 ?_ | refine XK.p hrb ok58 ?_ | refine XK.gp hrb ok58 ?_ | refine XK.p hfd ok112 ?_ | refine XK.gp hfd ok112 ?_))
      refine Go.loopQ (fun j:Nat=>[(8,.c (trD t1)),(13,DI .i64 ((j:Int) - 1))]) (fun _=>[]) 4096 (fun j=>j≤blAt t1 n∧blm t1 j=blm t1 (blAt t1 n)) (fun j=>j) ?_ (blAt t1 n) some [] _ ⟨Nat.le_refl _,rfl⟩ ?_
      ·rintro j ⟨hj,hI⟩ again
       match j,hj,hI,again with
       | 0,hj,hI,again =>
        simp only [show ((0:Nat):Int) - 1 = -1 from rfl]
        rcases h0x:t1[0]? with _ | ⟨k0,v0⟩
        ·refine drvL Try.func54 ?_
         simp only [go_sem,trD,h0x]
         iterate 6 ((try (refine drvZ Try.func54 ?_;simp only [go_sem,trD,h0x]));((with_reducible and_intros)<;>try exact sd))
         exact ret _ _ hI
        ·refine drvL Try.func54 ?_
         simp only [go_sem,trD,h0x,Ev.cells]
         iterate 6 ((try (refine drvZ Try.func54 ?_;simp only [go_sem,trD,h0x,Ev.cells]));((with_reducible and_intros)<;>try exact sd))
         exact ret _ _ hI
       | j+1,hj,hI,again =>
        have h0:(0:Int)≤((j+1:Nat):Int) - 1:=by omega
        have h1:((j+1:Nat):Int) - 1=(j:Int):=by omega
        have h2:((j:Int)<0)=False:=eq_false (by omega)
        simp only [h1]
        have hjl:j<t1.length:=by omega
        obtain ⟨⟨k2,v⟩,hx2⟩:∃ x,t1[j]? = some x:=⟨t1[j],by simp [hjl]⟩
        by_cases hk5:k2=5
        ·subst hk5
         have hI2:v=blm t1 (blAt t1 n):=by rw [← hI];simp [blm,hx2]
         refine drvL Try.func54 ?_
         simp only [go_sem,trD,hjl,hx2,Ev.cells]
         iterate 6 ((try (refine drvZ Try.func54 ?_;simp only [go_sem,trD,hjl,hx2,Ev.cells,h2,bne_self_eq_false]));((with_reducible and_intros)<;>try exact sd))
         exact ret _ _ hI2
        ·have e52:(k2 != 5)=true:=by simp [hk5]
         have hI2:blm t1 j=blm t1 (blAt t1 n):=by rw [← hI];simp [blm,hx2,hk5]
         refine drvL Try.func54 ?_
         simp only [go_sem,trD,hjl,hx2,Ev.cells]
         iterate 6 ((try (refine drvZ Try.func54 ?_;simp only [go_sem,trD,hjl,hx2,Ev.cells,e52]));((with_reducible and_intros)<;>try exact sd))
         refine again j some [] _ ⟨by omega,hI2⟩ (by omega) ?_
         simp only [go_sem,TmOK,DM,DMs,CM,CMs,forall_eq,exists_eq_left,Mq,HpOK,LowOK,trD]
         try simp
      ·rw [hb]
       simp only [go_sem,TmOK,DM,DMs,CM,CMs,forall_eq,exists_eq_left,Mq,HpOK,LowOK,trD]
       try simp
    ·have hb:blAt t1 n=n:=by simp [blAt,List.getElem?_eq_none hge]
     have hle:((t1.length:Int)≤(n:Int))=True:=eq_true (by omega)
     have hnone:=List.getElem?_eq_none hge
     refine dcZ Try.func54 ?_
     simp only [go_sem,Mm.cells]
     iterate 12 ((try (refine drvZ Try.func54 ?_;simp only [go_sem,Mm.cells,g1,hle,hnone,trD,Ev.cells]));((with_reducible and_intros)<;>try exact sd);(try first | refine XK.p hra ok58 ?_ | refine XK.gp hra ok58 ?_ | refine XK.p hrb ok58 ?_ | refine XK.gp hrb ok58 ?_ | refine XK.p hfd ok112 ?_ | refine XK.gp hfd ok112 ?_))
     refine Go.loopQ (fun j:Nat=>[(8,.c (trD t1)),(13,DI .i64 ((j:Int) - 1))]) (fun _=>[]) 4096 (fun j=>j≤blAt t1 n∧blm t1 j=blm t1 (blAt t1 n)) (fun j=>j) ?_ (blAt t1 n) some [] _ ⟨Nat.le_refl _,rfl⟩ ?_
     ·rintro j ⟨hj,hI⟩ again
      match j,hj,hI,again with
      | 0,hj,hI,again =>
       simp only [show ((0:Nat):Int) - 1 = -1 from rfl]
       rcases h0x:t1[0]? with _ | ⟨k0,v0⟩
       ·refine drvL Try.func54 ?_
        simp only [go_sem,trD,h0x]
        iterate 6 ((try (refine drvZ Try.func54 ?_;simp only [go_sem,trD,h0x]));((with_reducible and_intros)<;>try exact sd))
        exact ret _ _ hI
       ·refine drvL Try.func54 ?_
        simp only [go_sem,trD,h0x,Ev.cells]
        iterate 6 ((try (refine drvZ Try.func54 ?_;simp only [go_sem,trD,h0x,Ev.cells]));((with_reducible and_intros)<;>try exact sd))
        exact ret _ _ hI
      | j+1,hj,hI,again =>
       have h0:(0:Int)≤((j+1:Nat):Int) - 1:=by omega
       have h1:((j+1:Nat):Int) - 1=(j:Int):=by omega
       have h2:((j:Int)<0)=False:=eq_false (by omega)
       simp only [h1]
       have hjl:j<t1.length:=by omega
       obtain ⟨⟨k2,v⟩,hx2⟩:∃ x,t1[j]? = some x:=⟨t1[j],by simp [hjl]⟩
       by_cases hk5:k2=5
       ·subst hk5
        have hI2:v=blm t1 (blAt t1 n):=by rw [← hI];simp [blm,hx2]
        refine drvL Try.func54 ?_
        simp only [go_sem,trD,hjl,hx2,Ev.cells]
        iterate 6 ((try (refine drvZ Try.func54 ?_;simp only [go_sem,trD,hjl,hx2,Ev.cells,h2,bne_self_eq_false]));((with_reducible and_intros)<;>try exact sd))
        exact ret _ _ hI2
       ·have e52:(k2 != 5)=true:=by simp [hk5]
        have hI2:blm t1 j=blm t1 (blAt t1 n):=by rw [← hI];simp [blm,hx2,hk5]
        refine drvL Try.func54 ?_
        simp only [go_sem,trD,hjl,hx2,Ev.cells]
        iterate 6 ((try (refine drvZ Try.func54 ?_;simp only [go_sem,trD,hjl,hx2,Ev.cells,e52]));((with_reducible and_intros)<;>try exact sd))
        refine again j some [] _ ⟨by omega,hI2⟩ (by omega) ?_
        simp only [go_sem,TmOK,DM,DMs,CM,CMs,forall_eq,exists_eq_left,Mq,HpOK,LowOK,trD]
        try simp
     ·rw [hb]
      simp only [go_sem,TmOK,DM,DMs,CM,CMs,forall_eq,exists_eq_left,Mq,HpOK,LowOK,trD]
      try simp
theorem put_at : ∀ (ds A B : List C), ds.length ≤ B.length → putCells (A ++ B) A.length ds = A ++ ds ++ B.drop ds.length
 | [],A,B,_=>by simp [putCells]
 | d :: r,A,[],h=>by simp at h
 | d :: r,A,b :: B,h=>by
  have e:(A++b :: B).set A.length d=(A++[d])++B:=by
   rw [List.set_append_right _ _ (Nat.le_refl _)];simp
  have ih:=put_at r (A++[d]) B (by simpa using h)
  simp only [putCells,e]
  rw [show A.length+1=(A++[d]).length by simp,ih]
  simp
open CtL (In Cd kindsOf topOf fOK inOK endOK codeOK atC halt)
theorem shapeI0 (op:Int) (h:op<1∨13<op):DC Try.prog 231 [DI .i64 op] [] (fun r h=>r=DS ByteArray.empty∧h=[]):=by
 have hmx:=mx_eq
 have hw:=CtR.within op 1 13
 have hf:(decide (1≤op) && decide (op≤13))=false:=by rw [Bool.and_eq_false_iff];simp;omega
 rw [hf] at hw
 refine dcZ Try.func231 ?_
 simp only [go_sem]
 iterate 4 ((try (refine drvZ Try.func231 ?_;simp only [go_sem]));((with_reducible and_intros)<;>try exact sd);(try first | refine XK.p hw ok119 ?_ | refine XK.gp hw ok119 ?_))
 exact RetOb.plain (d:=DS _) ⟨rfl,rfl⟩ rfl
theorem fieldOkG (c : Cd) (h1 : c.vars.length ≤ mx) (h2 : c.arrays.length ≤ mx) (h3 : c.list.length ≤ mx) (k : Nat) (hk : k ≤ 6) (n : Int) :
 DC Try.prog 233 [.agg (cdC c),.c (.v (.int .u8 (ltr k).toNat)),DI .i64 n] [] (fun r h=>r=DB (fOK c.vars.length c.arrays.length c.list.length k n)∧h=[]):=by
 have hmx:=mx_eq
 have hw:=fun hi=>CtR.within n 0 hi
 have hw4:=CtR.within n 4 10
 obtain ⟨vs,ar,ls⟩:=c
 simp only at h1 h2 h3
 have ret:∀ (b:Bool) (hp:Hp),b=fOK vs.length ar.length ls.length k n→RetOb 0 (fun r h=>r=DB (fOK vs.length ar.length ls.length k n)∧h=[]) (DB b) hp:=fun b hp h=>RetOb.plain (d:=DB _) ⟨by rw [h],rfl⟩ rfl
 generalize hR:(fun (r:D) (h:List (Option (List C)))=>r=DB (fOK vs.length ar.length ls.length k n)∧h=[])=R at ret ⊢
 clear hR
 have key:k=0∨k=1∨k=2∨k=3∨k=4∨k=5∨k=6:=by omega
 unfold cdC
 rcases key with rfl | rfl | rfl | rfl | rfl | rfl | rfl
 ·rw [show (((ltr 0).toNat:Nat):Int)=45 from rfl]
  refine dcZ Try.func233 ?_
  simp only [go_sem]
  iterate 9 ((try (refine drvZ Try.func233 ?_;simp only [go_sem]));((with_reducible and_intros)<;>try exact sd))
  refine ret _ _ ?_
  rw [Bool.eq_iff_iff];simp [fOK,topOf];omega
 ·rw [show (((ltr 1).toNat:Nat):Int)=114 from rfl]
  have hw:=hw (13)
  generalize hB:(decide (0≤n) && decide (n≤13))=B at hw
  refine dcZ Try.func233 ?_
  simp only [go_sem]
  iterate 10 ((try (refine drvZ Try.func233 ?_;simp only [go_sem,Int.reduceLE,List.length_map]));((with_reducible and_intros)<;>try exact sd);(try first | refine XK.p hw ok119 ?_ | refine XK.gp hw ok119 ?_))
  exact ret _ _ (by rw [← hB];simp [fOK,topOf])
 ·rw [show (((ltr 2).toNat:Nat):Int)=110 from rfl]
  have hw:=hw (255)
  generalize hB:(decide (0≤n) && decide (n≤255))=B at hw
  refine dcZ Try.func233 ?_
  simp only [go_sem]
  iterate 10 ((try (refine drvZ Try.func233 ?_;simp only [go_sem,Int.reduceLE,List.length_map]));((with_reducible and_intros)<;>try exact sd);(try first | refine XK.p hw ok119 ?_ | refine XK.gp hw ok119 ?_))
  exact ret _ _ (by rw [← hB];simp [fOK,topOf])
 ·rw [show (((ltr 3).toNat:Nat):Int)=118 from rfl]
  have hw:=hw ((vs.length:Int) - 1)
  generalize hB:(decide (0≤n) && decide (n≤(vs.length:Int) - 1))=B at hw
  refine dcZ Try.func233 ?_
  simp only [go_sem]
  iterate 10 ((try (refine drvZ Try.func233 ?_;simp only [go_sem,Int.reduceLE,List.length_map]));((with_reducible and_intros)<;>try exact sd);(try first | refine XK.p hw ok119 ?_ | refine XK.gp hw ok119 ?_))
  exact ret _ _ (by rw [← hB];simp [fOK,topOf])
 ·rw [show (((ltr 4).toNat:Nat):Int)=97 from rfl]
  have hw:=hw ((ar.length:Int) - 1)
  generalize hB:(decide (0≤n) && decide (n≤(ar.length:Int) - 1))=B at hw
  refine dcZ Try.func233 ?_
  simp only [go_sem]
  iterate 10 ((try (refine drvZ Try.func233 ?_;simp only [go_sem,Int.reduceLE,List.length_map]));((with_reducible and_intros)<;>try exact sd);(try first | refine XK.p hw ok119 ?_ | refine XK.gp hw ok119 ?_))
  exact ret _ _ (by rw [← hB];simp [fOK,topOf])
 ·rw [show (((ltr 5).toNat:Nat):Int)=111 from rfl]
  have hw:=hw4
  generalize hB:(decide (4≤n) && decide (n≤10))=B at hw
  refine dcZ Try.func233 ?_
  simp only [go_sem]
  iterate 10 ((try (refine drvZ Try.func233 ?_;simp only [go_sem,Int.reduceLE,List.length_map]));((with_reducible and_intros)<;>try exact sd);(try first | refine XK.p hw ok119 ?_ | refine XK.gp hw ok119 ?_))
  exact ret _ _ (by rw [← hB];simp [fOK,topOf])
 ·rw [show (((ltr 6).toNat:Nat):Int)=105 from rfl]
  have hw:=hw ((ls.length:Int) - 1)
  generalize hB:(decide (0≤n) && decide (n≤(ls.length:Int) - 1))=B at hw
  refine dcZ Try.func233 ?_
  simp only [go_sem]
  iterate 10 ((try (refine drvZ Try.func233 ?_;simp only [go_sem,Int.reduceLE,List.length_map]));((with_reducible and_intros)<;>try exact sd);(try first | refine XK.p hw ok119 ?_ | refine XK.gp hw ok119 ?_))
  exact ret _ _ (by rw [← hB];simp [fOK,topOf])
theorem instrOkG (c : Cd) (h1 : c.vars.length ≤ mx) (h2 : c.arrays.length ≤ mx) (h3 : c.list.length ≤ mx) (x : In) :
 DC Try.prog 220 [.agg (cdC c),.agg (inX x)] [] (fun r h=>r=DB (inOK c.vars.length c.arrays.length c.list.length x)∧h=[]):=by
 have hmx:=mx_eq
 have hf:=fun k hk n=>fieldOkG c h1 h2 h3 k hk n
 have hfi:=fieldsI x
 have ret:∀ (b:Bool) (hp:Hp),b=inOK c.vars.length c.arrays.length c.list.length x→RetOb 0 (fun r h=>r=DB (inOK c.vars.length c.arrays.length c.list.length x)∧h=[]) (DB b) hp:=fun b hp h=>RetOb.plain (d:=DB _) ⟨by rw [h],rfl⟩ rfl
 generalize hR:(fun (r:D) (h:List (Option (List C)))=>r=DB (inOK c.vars.length c.arrays.length c.list.length x)∧h=[])=R at ret ⊢
 clear hR
 obtain ⟨op,a,b,c',d⟩:=x
 have hcx:cdC c=[isI c.vars,isI c.arrays,.isl 5 (c.list.map inX)]:=rfl
 have hlx:inX ⟨op,a,b,c',d⟩=[I64 op,I64 a,I64 b,I64 c',I64 d]:=rfl
 rw [hlx] at hfi ⊢
 simp only [hcx] at hf ⊢
 simp only at hfi
 generalize hLI:c.list.map inX=LI at *
 by_cases ho:op<1∨13<op
 ·have hsh:=shapeI0 op ho
  have hret:false=inOK c.vars.length c.arrays.length c.list.length ⟨op,a,b,c',d⟩:=by
   have hf0:(decide (1≤op) && decide (op≤13))=false:=by rw [Bool.and_eq_false_iff];simp;omega
   simp [inOK,hf0]
  have ret:=fun hp=>ret false hp hret
  have hse:(ByteArray.empty.toList == (ByteArray.toList { data:=#[] }))=true:=by simp [toList_nil]
  have hx0:([[I64 a],[I64 b],[I64 c'],[I64 d]]:List (List C))[0]? = some [I64 a]:=rfl
  refine dcZ Try.func220 ?_
  simp only [go_sem]
  iterate 5 ((try (refine drvZ Try.func220 ?_;simp only [go_sem]));((with_reducible and_intros)<;>try exact sd);(try first | refine XK.p hsh ok231 ?_ | refine XK.gp hsh ok231 ?_ | refine XK.p hfi ok232 ?_ | refine XK.gp hfi ok232 ?_))
  refine Go.loop ?_
  refine drvL Try.func220 ?_
  simp only [go_sem,hx0,hse]
  iterate 6 ((try (refine drvZ Try.func220 ?_;simp only [go_sem,hx0,hse]));((with_reducible and_intros)<;>try exact sd);(try first | refine XK.gs (DB false) ?_))
  exact ret _
 have o1:1≤op:=by omega
 have o2:op≤13:=by omega
 have hsh:=shapeI op ⟨o1,o2⟩
 have hin:inOK c.vars.length c.arrays.length c.list.length ⟨op,a,b,c',d⟩=(fOK c.vars.length c.arrays.length c.list.length ((kindsOf op).getD 0 0) a && fOK c.vars.length c.arrays.length c.list.length ((kindsOf op).getD 1 0) b && fOK c.vars.length c.arrays.length c.list.length ((kindsOf op).getD 2 0) c' && fOK c.vars.length c.arrays.length c.list.length ((kindsOf op).getD 3 0) d):=by
  unfold inOK
  rw [show decide (1≤op)=true by simp;omega,show decide (op≤13)=true by simp;omega]
  rfl
 rw [hin] at ret
 have retF:∀ (i:Nat) (hp:Hp),i<4→fOK c.vars.length c.arrays.length c.list.length ((kindsOf op).getD i 0) ([a,b,c',d].getD i 0)=false→RetOb 0 R (DB false) hp:=fun i hp hi h=>by
  refine ret _ _ ?_
  have:i=0∨i=1∨i=2∨i=3:=by omega
  rcases this with rfl | rfl | rfl | rfl
  ·rw [show fOK c.vars.length c.arrays.length c.list.length ((kindsOf op).getD 0 0) a=false from h];simp only [Bool.and_false,Bool.false_and]
  ·rw [show fOK c.vars.length c.arrays.length c.list.length ((kindsOf op).getD 1 0) b=false from h];simp only [Bool.and_false,Bool.false_and]
  ·rw [show fOK c.vars.length c.arrays.length c.list.length ((kindsOf op).getD 2 0) c'=false from h];simp only [Bool.and_false,Bool.false_and]
  ·rw [show fOK c.vars.length c.arrays.length c.list.length ((kindsOf op).getD 3 0) d=false from h];simp only [Bool.and_false]
 have retT:∀ (hp:Hp),(∀ i:Nat,i<4→fOK c.vars.length c.arrays.length c.list.length ((kindsOf op).getD i 0) ([a,b,c',d].getD i 0)=true)→RetOb 0 R (DB true) hp:=fun hp h=>by
  refine ret _ _ ?_
  rw [show fOK c.vars.length c.arrays.length c.list.length ((kindsOf op).getD 0 0) a=true from h 0 (by omega),show fOK c.vars.length c.arrays.length c.list.length ((kindsOf op).getD 1 0) b=true from h 1 (by omega),show fOK c.vars.length c.arrays.length c.list.length ((kindsOf op).getD 2 0) c'=true from h 2 (by omega),show fOK c.vars.length c.arrays.length c.list.length ((kindsOf op).getD 3 0) d=true from h 3 (by omega)];rfl
 clear ret hin
 have hsz:(shp op).size=4:=rfl
 have hse:((shp op).toList == (ByteArray.toList { data:=#[] }))=false:=shp_ne op ⟨o1,o2⟩
 refine dcZ Try.func220 ?_
 simp only [go_sem]
 iterate 5 ((try (refine drvZ Try.func220 ?_;simp only [go_sem]));((with_reducible and_intros)<;>try exact sd);(try first | refine XK.p hsh ok231 ?_ | refine XK.gp hsh ok231 ?_ | refine XK.p hfi ok232 ?_ | refine XK.gp hfi ok232 ?_))
 refine Go.loopQ (fun i : Nat => [(2, .c (.ptr 0 0)), (5, DS (shp op)), (12, .c (.isl 1 [[I64 a], [I64 b], [I64 c'], [I64 d]])), (13, DI .i64 4), (14, DI .i64 i)]) (fun _ => [(0, some [isI c.vars, isI c.arrays, .isl 5 LI])])
  4096 (fun i=>i≤4∧∀ j:Nat,j<i→fOK c.vars.length c.arrays.length c.list.length ((kindsOf op).getD j 0) ([a,b,c',d].getD j 0)=true) (fun i=>4 - i) ?_ 0 some [] _ ⟨by omega,fun j hj=>by omega⟩ ?_
 ·rintro i ⟨hi,hI⟩ again
  rcases Nat.lt_or_ge i 4 with hlt | hge
  ·have hx:[[I64 a],[I64 b],[I64 c'],[I64 d]][i]? = some [I64 ([a,b,c',d].getD i 0)]:=by
    have:i=0∨i=1∨i=2∨i=3:=by omega
    rcases this with rfl | rfl | rfl | rfl<;>rfl
   have hc:=hf _ (kinds_le op i) ([a,b,c',d].getD i 0)
   have hat:=shp_at op i hlt
   have hlt':(i:Int)<4:=by omega
   have retF:=fun hp=>retF i hp hlt
   have hst:∀ q:fOK c.vars.length c.arrays.length c.list.length ((kindsOf op).getD i 0) ([a,b,c',d].getD i 0)=true,i+1≤4∧∀ j:Nat,j<i+1→fOK c.vars.length c.arrays.length c.list.length ((kindsOf op).getD j 0) ([a,b,c',d].getD j 0)=true:=fun q=>⟨hlt,fun j hj=>by
    by_cases e:j=i
    ·subst e;exact q
    ·exact hI j (by omega)⟩
   generalize [a,b,c',d].getD i 0=n at *
   generalize (kindsOf op).getD i 0=k at *
   generalize [[I64 a],[I64 b],[I64 c'],[I64 d]]=fl at *
   generalize shp op=sp at *
   cases hq:fOK c.vars.length c.arrays.length c.list.length k n with
   | true =>
    rw [hq] at hc
    have hs:=hst hq
    refine drvL Try.func220 ?_
    simp only [go_sem,hlt']
    iterate 5 ((try (refine drvZ Try.func220 ?_;simp only [go_sem,hx,hlt',hat,hsz,hse]));((with_reducible and_intros)<;>try exact sd);(try first | refine XK.p hc ok233 ?_ | refine XK.gp hc ok233 ?_))
    refine again (i+1) some [] _ hs (by omega) ?_
    simp only [go_sem,TmOK,DM,DMs,CM,CMs,forall_eq,exists_eq_left,Mq,HpOK,LowOK]
    try simp
   | false =>
    rw [hq] at hc
    refine drvL Try.func220 ?_
    simp only [go_sem,hlt']
    iterate 5 ((try (refine drvZ Try.func220 ?_;simp only [go_sem,hx,hlt',hat,hsz,hse]));((with_reducible and_intros)<;>try exact sd);(try first | refine XK.p hc ok233 ?_ | refine XK.gp hc ok233 ?_))
    exact retF _ hq
  ·obtain rfl:i=4:=by omega
   have h44:(((4:Nat):Int)<4)=False:=eq_false (by decide)
   refine drvL Try.func220 ?_
   simp only [go_sem,h44]
   iterate 3 ((try (refine drvZ Try.func220 ?_;simp only [go_sem,h44]));((with_reducible and_intros)<;>try exact sd))
   exact retT _ hI
 ·simp only [go_sem,TmOK,DM,DMs,CM,CMs,forall_eq,exists_eq_left,Mq,HpOK,LowOK]
  simp
  try exact fun a _=>rfl
open CtL (In Cd kindsOf topOf fOK inOK endOK codeOK atC halt runC blmC)
theorem cvFnG (c : Cd) (h1 : c.vars.length ≤ mx) (h2 : c.arrays.length ≤ mx) (h3 : c.list.length ≤ mx) (x : In) :
 DC Try.prog 219 [.agg (inX x),.c (.eptr (cdC c))] [] (fun r h=>r=DB (!inOK c.vars.length c.arrays.length c.list.length x)∧h=[]):=by
 have hio:=instrOkG c h1 h2 h3 x
 generalize inOK c.vars.length c.arrays.length c.list.length x=B at *
 unfold cdC at hio ⊢
 obtain ⟨op,a,b,c',d⟩:=x
 unfold inX at hio ⊢
 refine dcZ Try.func219 ?_
 simp only [go_sem]
 iterate 4 ((try (refine drvZ Try.func219 ?_;simp only [go_sem]));((with_reducible and_intros)<;>try exact sd);(try first | refine XK.p hio ok220 ?_ | refine XK.gp hio ok220 ?_))
 exact RetOb.plain (d:=DB (!B)) ⟨rfl,rfl⟩ rfl
def ixB (p : In → Bool) : List In → Int → Int
 | [],_ => -1
 | x :: r,n=>if p x then ixB p r (n+1) else n
theorem ixB_all (p : In → Bool) : ∀ (l : List In) (n : Int), 0 ≤ n → decide (0 ≤ ixB p l n) = !l.all p
 | [],n,h=>rfl
 | x :: r,n,h=>by
  cases hx:p x with
  | true=>simp only [ixB,hx,if_true,List.all_cons,Bool.true_and];exact ixB_all p r (n+1) (by omega)
  | false=>simp [ixB,hx,h]
theorem indexFuncG (cc : List C) (p : In → Bool) (xs : List In) (hl : xs.length ≤ mx) (hg : ∀ x, DC Try.prog 219 [.agg (inX x), .c (.eptr cc)] [] (fun r h => r = DB (!p x) ∧ h = [])) :
 DC Try.prog 230 [.c (.isl 5 (xs.map inX)),.c (.clo 219 [.eptr cc])] [] (fun d h=>d=DI .i64 (ixB p xs 0)∧h=[]):=by
 have hmx:=mx_eq
 have ret:∀ (v:Int) (hp:Hp),v=ixB p xs 0→RetOb 0 (fun d h=>d=DI .i64 (ixB p xs 0)∧h=[]) (DI .i64 v) hp:=fun v hp h=>RetOb.plain (d:=DI .i64 _) ⟨by rw [h],rfl⟩ rfl
 generalize hR:(fun (d:D) (h:List (Option (List C)))=>d=DI .i64 (ixB p xs 0)∧h=[])=R at ret ⊢
 clear hR
 refine dcZ Try.func230 ?_
 simp only [go_sem]
 ((try (refine drvZ Try.func230 ?_;simp only [go_sem]));((with_reducible and_intros)<;>try exact sd))
 refine Go.loopQ (fun i:Nat=>[(0,.c (.isl 5 (xs.map inX))),(1,.c (.clo 219 [.eptr cc])),(7,DI .i64 xs.length),(8,DI .i64 i)]) (fun _=>[]) 1024 (fun i=>i≤xs.length∧ixB p (xs.drop i) i=ixB p xs 0) (fun i=>xs.length - i) ?_ 0 some [] _ ⟨Nat.zero_le _,rfl⟩ ?_
 ·rintro i ⟨hi,hI⟩ again
  rcases Nat.lt_or_ge i xs.length with hlt | hge
  ·obtain ⟨x,hx⟩:∃ x,xs[i]? = some x:=⟨xs[i],by simp [hlt]⟩
   have hgx:=hg x
   rw [List.drop_eq_getElem_cons hlt,(List.getElem?_eq_some_iff.1 hx).2] at hI
   cases hpx:p x with
   | true =>
    rw [hpx] at hgx
    simp only [ixB,hpx,if_true] at hI
    obtain ⟨op,a,b,c,d⟩:=x
    simp only [inX] at hgx
    refine drvL Try.func230 ?_
    simp only [go_sem,hx,hlt,inX]
    iterate 5 ((try (refine drvZ Try.func230 ?_;simp only [go_sem,hx,hlt,inX]));((with_reducible and_intros)<;>try exact sd);(try first | refine XK.p hgx ok219 ?_ | refine XK.gp hgx ok219 ?_))
    refine again (i+1) some [] _ ⟨hlt,by rw [← hI];rfl⟩ (by omega) ?_
    simp only [go_sem,TmOK,DM,DMs,CM,CMs,forall_eq,exists_eq_left,Mq,HpOK,LowOK]
    first | done | (simp;done) | (simp;exact CM.kf rfl) | exact CM.kf rfl
   | false =>
    rw [hpx] at hgx
    simp only [ixB,hpx] at hI
    obtain ⟨op,a,b,c,d⟩:=x
    simp only [inX] at hgx
    refine drvL Try.func230 ?_
    simp only [go_sem,hx,hlt,inX]
    iterate 5 ((try (refine drvZ Try.func230 ?_;simp only [go_sem,hx,hlt,inX]));((with_reducible and_intros)<;>try exact sd);(try first | refine XK.p hgx ok219 ?_ | refine XK.gp hgx ok219 ?_))
    exact ret _ _ (by rw [← hI];rfl)
  ·have hn:¬ i<xs.length:=by omega
   have e1:xs.drop i=[]:=List.drop_of_length_le (by omega)
   refine drvL Try.func230 ?_
   simp only [go_sem,hn]
   iterate 3 ((try (refine drvZ Try.func230 ?_;simp only [go_sem,hn]));((with_reducible and_intros)<;>try exact sd))
   exact ret _ _ (by rw [← hI,e1];rfl)
 ·simp only [go_sem,TmOK,DM,DMs,CM,CMs,forall_eq,exists_eq_left,Mq,HpOK,LowOK]
  first | done | (simp;done) | (simp;exact CM.kf rfl) | exact CM.kf rfl
theorem containsFuncG (cc : List C) (p : In → Bool) (xs : List In) (hl : xs.length ≤ mx) (hg : ∀ x, DC Try.prog 219 [.agg (inX x), .c (.eptr cc)] [] (fun r h => r = DB (!p x) ∧ h = [])) :
 DC Try.prog 218 [.c (.isl 5 (xs.map inX)),.c (.clo 219 [.eptr cc])] [] (fun d h=>d=DB (!xs.all p)∧h=[]):=by
 have hif:=indexFuncG cc p xs hl hg
 have hal:=ixB_all p xs 0 (by omega)
 generalize ixB p xs 0=k at *
 refine dcZ Try.func218 ?_
 simp only [go_sem]
 iterate 3 ((try (refine drvZ Try.func218 ?_;simp only [go_sem]));((with_reducible and_intros)<;>try exact sd);(try first | refine XK.p hif ok230 ?_ | refine XK.gp hif ok230 ?_))
 exact RetOb.plain (d:=DB _) ⟨by rw [← hal],rfl⟩ rfl
theorem codeValidG0 (c:Cd) (h1:c.vars.length≤2000000) (h2:c.arrays.length≤2000000) (h3:c.list.length≤100000000) (h:codeOK c=false):DC Try.prog 194 [.agg (cdC c)] [] (fun r h=>r=DB false∧h=[]):=by
 have hmx:=mx_eq
 have hfn:=fun x=>cvFnG c (by omega) (by omega) (by omega) x
 have ret:∀ hp:Hp,RetOb 0 (fun r h=>r=DB false∧h=[]) (DB false) hp:=fun hp=>RetOb.plain (d:=DB false) ⟨rfl,rfl⟩ rfl
 generalize hR:(fun (r:D) (h:List (Option (List C)))=>r=DB false∧h=[])=R at ret ⊢
 clear hR
 obtain ⟨vs,ar,l⟩:=c
 simp only at h1 h2 h3 hfn
 have hcf:=containsFuncG (cdC ⟨vs,ar,l⟩) (inOK vs.length ar.length l.length) l (by omega) hfn
 have hde:=declared vs ar (by omega) (by omega)
 have hw:=CtR.within l.length 1 400
 unfold codeOK at h
 simp only at h
 unfold cdC at hcf ⊢
 cases hh:headsOK vs ar with
 | false =>
  rw [hh] at hde
  clear hw hcf
  refine dcZ Try.func194 ?_
  simp only [go_sem]
  iterate 8 ((try (refine drvZ Try.func194 ?_;simp only [go_sem,List.length_map]));((with_reducible and_intros)<;>try exact sd);(try first | refine XK.p hde ok145 ?_ | refine XK.gp hde ok145 ?_ | refine XK.gs (DB false) ?_))
  exact ret _
 | true =>
  rw [hh] at hde h
  simp only [Bool.true_and] at h
  cases hb:(decide (1≤(l.length:Int)) && decide ((l.length:Int)≤400)) with
  | false =>
   rw [hb] at hw
   clear hcf
   refine dcZ Try.func194 ?_
   simp only [go_sem]
   iterate 8 ((try (refine drvZ Try.func194 ?_;simp only [go_sem,List.length_map]));((with_reducible and_intros)<;>try exact sd);(try first | refine XK.p hde ok145 ?_ | refine XK.gp hde ok145 ?_ | refine XK.p hw ok119 ?_ | refine XK.gp hw ok119 ?_ | refine XK.gs (DB false) ?_))
   exact ret _
  | true =>
   rw [hb] at hw h
   simp only [Bool.true_and] at h
   simp only [Bool.and_eq_true,decide_eq_true_eq] at hb
   obtain ⟨x,hx⟩:∃ x,l[l.length - 1]? = some x:=⟨l[l.length - 1]'(by omega),by simp⟩
   have hat:atC l (l.length - 1)=x:=by simp [atC,List.getD,hx]
   simp only [endOK,hat] at h
   have hpos:((l.length:Int) - 1).toNat=l.length - 1:=by omega
   have hget:(l.map inX)[l.length - 1]? = some (inX x):=by rw [List.getElem?_map,hx];rfl
   generalize hal:l.all (inOK vs.length ar.length l.length)=al at *
   obtain ⟨op,xa,xb,xc,xd⟩:=x
   simp only at h
   refine dcZ Try.func194 ?_
   simp only [go_sem]
   iterate 6 ((try (refine drvZ Try.func194 ?_;simp only [go_sem,List.length_map]));((with_reducible and_intros)<;>try exact sd);(try first | refine XK.p hde ok145 ?_ | refine XK.gp hde ok145 ?_ | refine XK.p hw ok119 ?_ | refine XK.gp hw ok119 ?_))
   refine XK.subQ (r := some) (fz := [0]) (tl := [(1, .c (.eptr [isI vs, isI ar, .isl 5 (l.map inX)])), (2, DB false), (17, DB false), (19, .when true (.c (.isl 5 (l.map inX)))), (20, .when true (.c (.clo 219 [.eptr [isI vs, isI ar, .isl 5 (l.map inX)]])))])
    (hl:=[]) ?_ ?_
   ·simp only [go_sem,TmOK,DM,DMs,CM,CMs,forall_eq,exists_eq_left,Mq,HpOK,LowOK]
    simp
   cases al with
   | false =>
    iterate 9 ((try (refine drvZ Try.func194 ?_;simp only [go_sem,List.length_map]));((with_reducible and_intros)<;>try exact sd);(try first | refine XK.p hcf ok218 ?_ | refine XK.gp hcf ok218 ?_))
    exact ret _
   | true =>
    simp only [Bool.true_and,Bool.or_eq_false_iff] at h
    have e1:=h.1
    have e2:=h.2
    iterate 9 ((try (refine drvZ Try.func194 ?_;simp only [go_sem,List.length_map,hpos,hget,inX,e1,e2]));((with_reducible and_intros)<;>try exact sd);(try first | refine XK.p hcf ok218 ?_ | refine XK.gp hcf ok218 ?_))
    exact ret _
theorem startI0 (c:Cd) (m:Mm) (h1:c.vars.length≤2000000) (h2:c.arrays.length≤2000000) (h3:c.list.length≤100000000) (h:codeOK c=false):DC Try.prog 172 [.agg (cdC c),.agg m.cells] [] (fun r h=>r = .tup [.agg [I64 0,.v (.slice none 0 0),.v (.slice none 0 0),.v (.slice none 0 0)],DB false]∧h=[]):=by
 have hmx:=mx_eq
 have hcv:=codeValidG0 c h1 h2 h3 h
 obtain ⟨vs,ar,l⟩:=c
 obtain ⟨va,arr⟩:=m
 simp only [cdC,ints] at hcv ⊢
 refine dcZ Try.func172 ?_
 simp only [go_sem,Mm.cells]
 iterate 6 ((try (refine drvZ Try.func172 ?_;simp only [go_sem,Mm.cells]));((with_reducible and_intros)<;>try exact sd);(try first | refine XK.p hcv ok194 ?_ | refine XK.gp hcv ok194 ?_ | refine XK.gs (DB false) ?_))
 refine RetOb.ofQ (fun _=>none) [] (.tup [.agg [I64 0,.v (.slice none 0 0),.v (.slice none 0 0),.v (.slice none 0 0)],DB false]) [] ?_ ⟨rfl,rfl⟩ (by simp)
 simp [enumL,DM,DMs,CM,CMs,HpOK,LowOK]
theorem ranI0 (c:Cd) (m:Mm) (h1:c.vars.length≤2000000) (h2:c.arrays.length≤2000000) (h3:c.list.length≤100000000) (h:codeOK c=false):DC Try.prog 124 [.agg (cdC c),.agg m.cells] [] (fun r h=>r = .tup [.c (.v (.pointer none)),.c (.v (.slice none 0 0)),DB false]∧h=[]):=by
 have hmx:=mx_eq
 have hst:=startI0 c m h1 h2 h3 h
 obtain ⟨vs,ar,l⟩:=c
 obtain ⟨va,arr⟩:=m
 simp only [cdC,ints] at hst ⊢
 refine dcZ Try.func124 ?_
 simp only [go_sem,Mm.cells]
 iterate 5 ((try (refine drvZ Try.func124 ?_;simp only [go_sem,Mm.cells]));((with_reducible and_intros)<;>try exact sd);(try first | refine XK.p hst ok172 ?_ | refine XK.gp hst ok172 ?_))
 refine RetOb.ofQ (fun _=>none) [] (.tup [.c (.v (.pointer none)),.c (.v (.slice none 0 0)),DB false]) [] ?_ ⟨rfl,rfl⟩ (by simp)
 simp [enumL,DM,DMs,CM,CMs,HpOK,LowOK]
theorem runCodeG (c:Cd) (m:Mm) (h1:c.vars.length≤2000000) (h2:c.arrays.length≤2000000) (h3:c.list.length≤100000000):DC Try.prog 58 [.agg (cdC c),.agg m.cells] [] (fun r h=>r = .tup [.agg (runC c m).1.cells,.c (trD (runC c m).2.1),DB (runC c m).2.2]∧h=[]):=by
 cases hco:codeOK c with
 | true=>exact runCodeI c m hco
 | false =>
  have hmx:=mx_eq
  have hrn:=ranI0 c m h1 h2 h3 hco
  have hrf:runC c m=(⟨[],[]⟩,[],false):=by unfold runC;rw [hco];rfl
  generalize hR:(fun (r:D) (h:List (Option (List C)))=>r = .tup [.agg (runC c m).1.cells,.c (trD (runC c m).2.1),DB (runC c m).2.2]∧h=[])=R
  obtain ⟨vs,ar,l⟩:=c
  obtain ⟨va,arr⟩:=m
  simp only [cdC,ints] at hrn ⊢
  refine dcZ Try.func58 ?_
  simp only [go_sem,Mm.cells]
  iterate 6 ((try (refine drvZ Try.func58 ?_;simp only [go_sem,Mm.cells]));((with_reducible and_intros)<;>try exact sd);(try first | refine XK.p hrn ok124 ?_ | refine XK.gp hrn ok124 ?_))
  refine RetOb.noRun ?_ (.inl rfl)
  subst hR
  rw [hrf]
  exact ⟨rfl,rfl⟩
theorem blameInstrG (c:Cd) (a b:Mm) (h1:c.vars.length≤2000000) (h2:c.arrays.length≤2000000) (h3:c.list.length≤100000000):DC Try.prog 54 [.agg (cdC c),.agg a.cells,.agg b.cells] [] (fun r h=>r=DI .i64 (blmC c a b)∧h=[]) :=
 blameInstrOf c a b (runCodeG c a h1 h2 h3) (runCodeG c b h1 h2 h3)
end Go.Proofs.Ytddanjifhdaebaa.CtD
