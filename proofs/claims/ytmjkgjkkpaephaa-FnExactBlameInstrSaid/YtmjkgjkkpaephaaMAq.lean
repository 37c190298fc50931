/- Contracts of functions of the program, one behind the other, as plain data: what each call returns and which blocks it leaves. -/
import Derived.Test.YtmjkgjkkpaephaaMFacts
import Derived.Test.YtmjkgjkkpaephaaMAh
import Derived.Test.YtmjkgjkkpaephaaMAk
import Derived.Test.YtmjkgjkkpaephaaMAm
import Derived.Test.YtmjkgjkkpaephaaMAn
import Derived.Test.YtmjkgjkkpaephaaMAp
import Derived.Test.YtmjkgjkkpaephaaMAi
set_option linter.unusedVariables false
set_option linter.unusedSimpArgs false
set_option maxHeartbeats 16000000
set_option maxRecDepth 100000
namespace Go.Proofs.Ytmjkgjkkpaephaa.CtD
open Go Go.CT CtF CtR
open CtL (In Cd codeOK runC blm blAt blmC)
theorem fdif_le : ∀ (xs ys : List Ev) (n : Int), fdif xs ys n ≤ n + xs.length ∨ fdif xs ys n = -1
 | [],[],n => .inr rfl
 | [],b :: r,n => .inl (by simp [fdif])
 | a :: r,[],n => .inl (by simp only [fdif,List.length_cons];omega)
 | a :: r,b :: s,n=>by
  simp only [fdif,List.length_cons]
  split
  ·rcases fdif_le r s (n+1) with h | h
   ·exact .inl (by omega)
   ·exact .inr h
  ·exact .inl (by omega)
theorem blameInstrS (c:Cd) (a b:Mm) (h1:c.vars.length≤2000000) (h2:c.arrays.length≤2000000) (h3:c.list.length≤100000000):DC Try.prog 9 [.agg (cdC c),.agg a.cells,.agg b.cells] [] (fun r h=>r=DI .i64 (blmC c a b)∧h=[]):=by
 have hmx:=mx_eq
 have hra:=runCodeS c a h1 h2 h3
 have hrb:=runCodeS c b h1 h2 h3
 have hla:=runC_len c a
 have hlb:=runC_len c b
 have ret:∀ (v:Int) (hp:Hp),v=blmC c a b→RetOb 0 (fun r h=>r=DI .i64 (blmC c a b)∧h=[]) (DI .i64 v) hp:=fun v hp h=>RetOb.plain (d:=DI .i64 _) ⟨by rw [h],rfl⟩ rfl
 generalize hR:(fun (r:D) (h:List (Option (List C)))=>r=DI .i64 (blmC c a b)∧h=[])=R at ret ⊢
 clear hR
 unfold blmC at ret
 generalize runC c a=X at *
 generalize runC c b=Y at *
 obtain ⟨⟨u1,u2⟩,t1,b1⟩:=X
 obtain ⟨⟨v1,v2⟩,t2,b2⟩:=Y
 simp only at hla hlb ret
 have hfd:=firstDifferenceG t1 t2 (by omega) (by omega)
 have hfg:=fdif_ge t1 t2 0 (by omega)
 have hfl:=fdif_le t1 t2 0
 generalize fdif t1 t2 0=k at *
 obtain ⟨vs,ar,l⟩:=c
 obtain ⟨va,arr⟩:=a
 obtain ⟨va',arr'⟩:=b
 unfold cdC at *
 simp only at *
 have hmx:=mx_eq
 cases b1 with
 | false =>
  refine dcZ Try.func9 ?_
  simp only [go_sem,Mm.cells]
  iterate 12 ((try (refine drvZ Try.func9 ?_;simp only [go_sem,Mm.cells]));((with_reducible and_intros)<;>try exact sd);(try first | refine XK.p hra ok26 ?_ | refine XK.gp hra ok26 ?_ | refine XK.p hrb ok26 ?_ | refine XK.gp hrb ok26 ?_ | refine XK.p hfd ok27 ?_ | refine XK.gp hfd ok27 ?_))
  exact ret _ _ (by simp)
 | true =>
  cases b2 with
  | false =>
   refine dcZ Try.func9 ?_
   simp only [go_sem,Mm.cells]
   iterate 12 ((try (refine drvZ Try.func9 ?_;simp only [go_sem,Mm.cells]));((with_reducible and_intros)<;>try exact sd);(try first | refine XK.p hra ok26 ?_ | refine XK.gp hra ok26 ?_ | refine XK.p hrb ok26 ?_ | refine XK.gp hrb ok26 ?_ | refine XK.p hfd ok27 ?_ | refine XK.gp hfd ok27 ?_))
   exact ret _ _ (by simp)
  | true =>
   by_cases hk:k<0
   ·have g1:(k<0)=True:=eq_true hk
    refine dcZ Try.func9 ?_
    simp only [go_sem,Mm.cells]
    iterate 12 ((try (refine drvZ Try.func9 ?_;simp only [go_sem,Mm.cells,g1]));((with_reducible and_intros)<;>try exact sd);(try first | refine XK.p hra ok26 ?_ | refine XK.gp hra ok26 ?_ | refine XK.p hrb ok26 ?_ | refine XK.gp hrb ok26 ?_ | refine XK.p hfd ok27 ?_ | refine XK.gp hfd ok27 ?_))
    exact ret _ _ (by rw [if_neg];omega)
   ·have g1:(k<0)=False:=eq_false hk
    obtain ⟨n,rfl⟩:∃ n:Nat,k=n:=⟨k.toNat,by omega⟩
    have hlb:=l15Blame t1 n (by omega) (by omega)
    refine dcZ Try.func9 ?_
    simp only [go_sem,Mm.cells]
    iterate 12 ((try (refine drvZ Try.func9 ?_;simp only [go_sem,Mm.cells,g1]));((with_reducible and_intros)<;>try exact sd);(try first | refine XK.p hra ok26 ?_ | refine XK.gp hra ok26 ?_ | refine XK.p hrb ok26 ?_ | refine XK.gp hrb ok26 ?_ | refine XK.p hfd ok27 ?_ | refine XK.gp hfd ok27 ?_ | refine XK.p hlb ok28 ?_ | refine XK.gp hlb ok28 ?_))
    exact ret _ _ (by rw [if_pos ⟨rfl,rfl,by omega⟩];rfl)
theorem blameInstrOf (c : Cd) (a b : Mm) (hra : DC Try.prog 16 [.agg (cdC c), .agg a.cells] [] (fun r h => r = .tup [.agg (runC c a).1.cells, .c (trD (runC c a).2.1), DB (runC c a).2.2] ∧ h = []))
 (hrb:DC Try.prog 16 [.agg (cdC c),.agg b.cells] [] (fun r h=>r = .tup [.agg (runC c b).1.cells,.c (trD (runC c b).2.1),DB (runC c b).2.2]∧h=[])) :
 DC Try.prog 12 [.agg (cdC c),.agg a.cells,.agg b.cells] [] (fun r h=>r=DI .i64 (blmC c a b)∧h=[]):=by
 have hmx:=mx_eq
 have hla:=runC_len c a
 have hlb:=runC_len c b
 have ret:∀ (v:Int) (hp:Hp),v=blmC c a b→RetOb 0 (fun r h=>r=DI .i64 (blmC c a b)∧h=[]) (DI .i64 v) hp:=fun v hp h=>RetOb.plain (d:=DI .i64 _) ⟨by rw [h],rfl⟩ rfl
 generalize hR:(fun (r:D) (h:List (Option (List C)))=>r=DI .i64 (blmC c a b)∧h=[])=R at ret ⊢
 clear hR
 unfold blmC at ret
 generalize runC c a=X at *
 generalize runC c b=Y at *
 obtain ⟨⟨u1,u2⟩,t1,b1⟩:=X
 obtain ⟨⟨v1,v2⟩,t2,b2⟩:=Y
 simp only at hla hlb ret
 have hfd:=firstDifference t1 t2 (by omega) (by omega)
 have hfg:=fdif_ge t1 t2 0 (by omega)
 have hfl:=fdif_le t1 t2 0
 generalize fdif t1 t2 0=k at *
 obtain ⟨vs,ar,l⟩:=c
 obtain ⟨va,arr⟩:=a
 obtain ⟨va',arr'⟩:=b
 unfold cdC at *
 simp only at *
 have hmx:=mx_eq
 cases b1 with
 | false =>
  refine dcZ Try.func12 ?_
  simp only [go_sem,Mm.cells]
  iterate 12 ((try (refine drvZ Try.func12 ?_;simp only [go_sem,Mm.cells]));((with_reducible and_intros)<;>try exact sd);(try first | refine XK.p hra ok16 ?_ | refine XK.gp hra ok16 ?_ | refine XK.p hrb ok16 ?_ | refine XK.gp hrb ok16 ?_ | refine XK.p hfd ok32 ?_ | refine XK.gp hfd ok32 ?_))
  exact ret _ _ (by simp)
 | true =>
  cases b2 with
  | false =>
   refine dcZ Try.func12 ?_
   simp only [go_sem,Mm.cells]
   iterate 12 ((try (refine drvZ Try.func12 ?_;simp only [go_sem,Mm.cells]));((with_reducible and_intros)<;>try exact sd);(try first | refine XK.p hra ok16 ?_ | refine XK.gp hra ok16 ?_ | refine XK.p hrb ok16 ?_ | refine XK.gp hrb ok16 ?_ | refine XK.p hfd ok32 ?_ | refine XK.gp hfd ok32 ?_))
   exact ret _ _ (by simp)
  | true =>
   by_cases hk:k<0
   ·have g1:(k<0)=True:=eq_true hk
    refine dcZ Try.func12 ?_
    simp only [go_sem,Mm.cells]
    iterate 12 ((try (refine drvZ Try.func12 ?_;simp only [go_sem,Mm.cells,g1]));((with_reducible and_intros)<;>try exact sd);(try first | refine XK.p hra ok16 ?_ | refine XK.gp hra ok16 ?_ | refine XK.p hrb ok16 ?_ | refine XK.gp hrb ok16 ?_ | refine XK.p hfd ok32 ?_ | refine XK.gp hfd ok32 ?_))
    exact ret _ _ (by rw [if_neg];omega)
   ·have g1:(k<0)=False:=eq_false hk
    obtain ⟨n,rfl⟩:∃ n:Nat,k=n:=⟨k.toNat,by omega⟩
    rw [if_pos ⟨rfl,rfl,by omega⟩,Int.toNat_natCast] at ret
    have hnl:n≤t1.length:=by omega
    have round:blAt t1 n≤t1.length:=by
     unfold blAt
     rcases Nat.lt_or_ge n t1.length with h | h
     ·rw [List.getElem?_eq_getElem h]
      simp only
      split<;>omega
     ·rw [List.getElem?_eq_none h];exact hnl
    rcases Nat.lt_or_ge n t1.length with hlt | hge
    ·obtain ⟨⟨kk,kv⟩,hx⟩:∃ x,t1[n]? = some x:=⟨t1[n],by simp [hlt]⟩
     have hnge:((t1.length:Int)≤(n:Int))=False:=eq_false (by omega)
     by_cases h5:kk=5
     ·subst h5
      have hb:blAt t1 n=n:=by simp [blAt,hx]
      refine dcZ Try.func12 ?_
      simp only [go_sem,Mm.cells]
      iterate 12 ((try (refine drvZ Try.func12 ?_;simp only [go_sem,Mm.cells,g1,hnge,hlt,hx,trD,Ev.cells]));((with_reducible and_intros)<;>try exact sd);(try first | refine XK.p hra ok16 ?_ | refine XK.gp hra ok16 ?_ | refine XK.p hrb ok16 ?_ | refine XK.gp hrb ok16 ?_ | refine XK.p hfd ok32 ?_ | refine XK.gp hfd ok32 ?_))
      refine Go.loopQ (fun j:Nat=>[(8,.c (trD t1)),(13,DI .i64 ((j:Int) - 1))]) (fun _=>[]) 4096 (fun j=>j≤blAt t1 n∧blm t1 j=blm t1 (blAt t1 n)) (fun j=>j) ?_ (blAt t1 n) some [] _ ⟨Nat.le_refl _,rfl⟩ ?_
      ·rintro j ⟨hj,hI⟩ again
       match j,hj,hI,again with
       | 0,hj,hI,again =>
        simp only [show ((0:Nat):Int) - 1 = -1 from rfl]
        rcases h0x:t1[0]? with _ | ⟨k0,v0⟩
        ·refine drvL Try.func12 ?_
         simp only [go_sem,trD,h0x]
         iterate 6 ((try (refine drvZ Try.func12 ?_;simp only [go_sem,trD,h0x]));((with_reducible and_intros)<;>try exact sd))
         exact ret _ _ hI
        ·refine drvL Try.func12 ?_
         simp only [go_sem,trD,h0x,Ev.cells]
         iterate 6 ((try (refine drvZ Try.func12 ?_;simp only [go_sem,trD,h0x,Ev.cells]));((with_reducible and_intros)<;>try exact sd))
         exact ret _ _ hI
       | j+1,hj,hI,again =>
        have h0:(0:Int)≤((j+1:Nat):Int) - 1:=by omega
        have h1:((j+1:Nat):Int) - 1=(j:Int):=by omega
        have h2:((j:Int)<0)=False:=eq_false (by omega)
        simp only [h1]
        have hjl:j<t1.length:=by omega
        obtain ⟨⟨k2,v⟩,hx2⟩:∃ x,t1[j]? = some x:=⟨t1[j],by simp [hjl]⟩
        by_cases hk5:k2=5
        ·subst hk5
         have hI2:v=blm t1 (blAt t1 n):=by rw [← hI];simp [blm,hx2]
         refine drvL Try.func12 ?_
         simp only [go_sem,trD,hjl,hx2,Ev.cells]
         iterate 6 ((try (refine drvZ Try.func12 ?_;simp only [go_sem,trD,hjl,hx2,Ev.cells,h2,bne_self_eq_false]));((with_reducible and_intros)<;>try exact sd))
         exact ret _ _ hI2
        ·have e52:(k2 != 5)=true:=by simp [hk5]
         have hI2:blm t1 j=blm t1 (blAt t1 n):=by rw [← hI];simp [blm,hx2,hk5]
         refine drvL Try.func12 ?_
         simp only [go_sem,trD,hjl,hx2,Ev.cells]
         iterate 6 ((try (refine drvZ Try.func12 ?_;simp only [go_sem,trD,hjl,hx2,Ev.cells,e52]));((with_reducible and_intros)<;>try exact sd))
         refine again j some [] _ ⟨by omega,hI2⟩ (by omega) ?_
         simp only [go_sem,TmOK,DM,DMs,CM,CMs,forall_eq,exists_eq_left,Mq,HpOK,LowOK,trD]
         try simp
      ·rw [hb]
       simp only [go_sem,TmOK,DM,DMs,CM,CMs,forall_eq,exists_eq_left,Mq,HpOK,LowOK,trD]
       try simp
     ·have e5:(kk == 5)=false:=by simp [h5]
      have hb:blAt t1 n=n+1:=by simp [blAt,hx,h5]
      refine dcZ Try.func12 ?_
      simp only [go_sem,Mm.cells]
      iterate 12 ((try (refine drvZ Try.func12 ?_;simp only [go_sem,Mm.cells,g1,hnge,hlt,hx,e5,trD,Ev.cells]));((with_reducible and_intros)<;>try exact sd);(try first | refine XK.p hra ok16 ?_ | refine XK.gp hra ok16 ?_ | refine XK.p hrb ok16 ?_ | refine XK.gp hrb ok16 ?_ | refine XK.p hfd ok32 ?_ | refine XK.gp hfd ok32 ?_))
      refine Go.loopQ (fun j:Nat=>[(8,.c (trD t1)),(13,DI .i64 ((j:Int) - 1))]) (fun _=>[]) 4096 (fun j=>j≤blAt t1 n∧blm t1 j=blm t1 (blAt t1 n)) (fun j=>j) ?_ (blAt t1 n) some [] _ ⟨Nat.le_refl _,rfl⟩ ?_
      ·rintro j ⟨hj,hI⟩ again
       match j,hj,hI,again with
       | 0,hj,hI,again =>
        simp only [show ((0:Nat):Int) - 1 = -1 from rfl]
        rcases h0x:t1[0]? with _ | ⟨k0,v0⟩
        ·refine drvL Try.func12 ?_
         simp only [go_sem,trD,h0x]
         iterate 6 ((try (refine drvZ Try.func12 ?_;simp only [go_sem,trD,h0x]));((with_reducible and_intros)<;>try exact sd))
         exact ret _ _ hI
        ·refine drvL Try.func12 ?_
         simp only [go_sem,trD,h0x,Ev.cells]
         iterate 6 ((try (refine drvZ Try.func12 ?_;simp only [go_sem,trD,h0x,Ev.cells]));((with_reducible and_intros)<;>try exact sd))
         exact ret _ _ hI
       | j+1,hj,hI,again =>
        have h0:(0:Int)≤((j+1:Nat):Int) - 1:=by omega
        have h1:((j+1:Nat):Int) - 1=(j:Int):=by omega
        have h2:((j:Int)<0)=False:=eq_false (by omega)
        simp only [h1]
        have hjl:j<t1.length:=by omega
        obtain ⟨⟨k2,v⟩,hx2⟩:∃ x,t1[j]? = some x:=⟨t1[j],by simp [hjl]⟩
        by_cases hk5:k2=5
        ·subst hk5
         have hI2:v=blm t1 (blAt t1 n):=by rw [← hI];simp [blm,hx2]
         refine drvL Try.func12 ?_
         simp only [go_sem,trD,hjl,hx2,Ev.cells]
         iterate 6 ((try (refine drvZ Try.func12 ?_;simp only [go_sem,trD,hjl,hx2,Ev.cells,h2,bne_self_eq_false]));((with_reducible and_intros)<;>try exact sd))
         exact ret _ _ hI2
        ·have e52:(k2 != 5)=true:=by simp [hk5]
         have hI2:blm t1 j=blm t1 (blAt t1 n):=by rw [← hI];simp [blm,hx2,hk5]
         refine drvL Try.func12 ?_
         simp only [go_sem,trD,hjl,hx2,Ev.cells]
         iterate 6 ((try (refine drvZ Try.func12 ?_;simp only [go_sem,trD,hjl,hx2,Ev.cells,e52]));((with_reducible and_intros)<;>try exact sd))
         refine again j some [] _ ⟨by omega,hI2⟩ (by omega) ?_
         simp only [go_sem,TmOK,DM,DMs,CM,CMs,forall_eq,exists_eq_left,Mq,HpOK,LowOK,trD]
         try simp
      ·rw [hb]
       simp only [go_sem,TmOK,DM,DMs,CM,CMs,forall_eq,exists_eq_left,Mq,HpOK,LowOK,trD]
       try simp
    ·have hb:blAt t1 n=n:=by simp [blAt,List.getElem?_eq_none hge]
     have hle:((t1.length:Int)≤(n:Int))=True:=eq_true (by omega)
     have hnone:=List.getElem?_eq_none hge
     refine dcZ Try.func12 ?_
     simp only [go_sem,Mm.cells]
     iterate 12 ((try (refine drvZ Try.func12 ?_;simp only [go_sem,Mm.cells,g1,hle,hnone,trD,Ev.cells]));((with_reducible and_intros)<;>try exact sd);(try first | refine XK.p hra ok16 ?_ | refine XK.gp hra ok16 ?_ | refine XK.p hrb ok16 ?_ | refine XK.gp hrb ok16 ?_ | refine XK.p hfd ok32 ?_ | refine XK.gp hfd ok32 ?_))
     refine Go.loopQ (fun j:Nat=>[(8,.c (trD t1)),(13,DI .i64 ((j:Int) - 1))]) (fun _=>[]) 4096 (fun j=>j≤blAt t1 n∧blm t1 j=blm t1 (blAt t1 n)) (fun j=>j) ?_ (blAt t1 n) some [] _ ⟨Nat.le_refl _,rfl⟩ ?_
     ·rintro j ⟨hj,hI⟩ again
      match j,hj,hI,again with
      | 0,hj,hI,again =>
       simp only [show ((0:Nat):Int) - 1 = -1 from rfl]
       rcases h0x:t1[0]? with _ | ⟨k0,v0⟩
       ·refine drvL Try.func12 ?_
        simp only [go_sem,trD,h0x]
        iterate 6 ((try (refine drvZ Try.func12 ?_;simp only [go_sem,trD,h0x]));((with_reducible and_intros)<;>try exact sd))
        exact ret _ _ hI
       ·refine drvL Try.func12 ?_
        simp only [go_sem,trD,h0x,Ev.cells]
        iterate 6 ((try (refine drvZ Try.func12 ?_;simp only [go_sem,trD,h0x,Ev.cells]));((with_reducible and_intros)<;>try exact sd))
        exact ret _ _ hI
      | j+1,hj,hI,again =>
       have h0:(0:Int)≤((j+1:Nat):Int) - 1:=by omega
       have h1:((j+1:Nat):Int) - 1=(j:Int):=by omega
       have h2:((j:Int)<0)=False:=eq_false (by omega)
       simp only [h1]
       have hjl:j<t1.length:=by omega
       obtain ⟨⟨k2,v⟩,hx2⟩:∃ x,t1[j]? = some x:=⟨t1[j],by simp [hjl]⟩
       by_cases hk5:k2=5
       ·subst hk5
        have hI2:v=blm t1 (blAt t1 n):=by rw [← hI];simp [blm,hx2]
        refine drvL Try.func12 ?_
        simp only [go_sem,trD,hjl,hx2,Ev.cells]
        iterate 6 ((try (refine drvZ Try.func12 ?_;simp only [go_sem,trD,hjl,hx2,Ev.cells,h2,bne_self_eq_false]));((with_reducible and_intros)<;>try exact sd))
        exact ret _ _ hI2
       ·have e52:(k2 != 5)=true:=by simp [hk5]
        have hI2:blm t1 j=blm t1 (blAt t1 n):=by rw [← hI];simp [blm,hx2,hk5]
        refine drvL Try.func12 ?_
        simp only [go_sem,trD,hjl,hx2,Ev.cells]
        iterate 6 ((try (refine drvZ Try.func12 ?_;simp only [go_sem,trD,hjl,hx2,Ev.cells,e52]));((with_reducible and_intros)<;>try exact sd))
        refine again j some [] _ ⟨by omega,hI2⟩ (by omega) ?_
        simp only [go_sem,TmOK,DM,DMs,CM,CMs,forall_eq,exists_eq_left,Mq,HpOK,LowOK,trD]
        try simp
     ·rw [hb]
      simp only [go_sem,TmOK,DM,DMs,CM,CMs,forall_eq,exists_eq_left,Mq,HpOK,LowOK,trD]
      try simp
end Go.Proofs.Ytmjkgjkkpaephaa.CtD
namespace Go.Proofs.Ytmjkgjkkpaephaa.CtD
open Go Go.CT CtF CtR
def szIL : List (List Int) → Nat
 | []=>0
 | a :: r=>(1+a.length)+szIL r
theorem szIL_eq : ∀ l : List (List Int), szIL l = (l.map fun e => 1 + e.length).sum
 | []=>rfl
 | e :: r=>by simp only [szIL,List.map_cons,List.sum_cons,szIL_eq r]
def szM (m:Mm):Nat:=m.vals.length+szIL m.arrays
def subZ (left:Int) (n:Nat):Int:=if (n:Int)≤left then left - n else -1
theorem sum_split {α : Type} (f : α → Nat) : ∀ l : List α, (l.map fun e => 1 + f e).sum = l.length + (l.map f).sum
 | []=>rfl
 | a :: r=>by simp only [List.map_cons,List.sum_cons,List.length_cons,sum_split f r];omega
theorem sum_take {α:Type} (f:α→Nat) {l:List α} {i:Nat} {x:α} (h:l[i]? = some x):((l.take (i+1)).map f).sum=((l.take i).map f).sum+f x∧((l.take i).map f).sum+f x≤(l.map f).sum:=by
 have hi:i<l.length:=(List.getElem?_eq_some_iff.1 h).1
 have hx:l[i]=x:=(List.getElem?_eq_some_iff.1 h).2
 have e:l.take (i+1)=l.take i++[x]:=by rw [List.take_succ_eq_append_getElem hi,hx]
 refine ⟨by rw [e];simp,?_⟩
 have e2:(l.map f).sum=((l.take (i+1)).map f).sum+((l.drop (i+1)).map f).sum:=by
  rw [← List.sum_append,← List.map_append,List.take_append_drop]
 rw [e2,e];simp
structure MmB (m : Mm) : Prop where
 nv:m.vals.length≤mx
 na:m.arrays.length≤mx
 ar:∀ a ∈ m.arrays,a.length≤mx
theorem mem_sum {α : Type} (f : α → Nat) : ∀ {l : List α} {x : α}, x ∈ l → f x + 1 ≤ (l.map fun e => 1 + f e).sum
 | a :: r,x,h=>by
  simp only [List.map_cons,List.sum_cons]
  rcases List.mem_cons.1 h with rfl | h
  ·omega
  ·have:=mem_sum f h;omega
theorem put_at : ∀ (ds A B : List C), ds.length ≤ B.length → putCells (A ++ B) A.length ds = A ++ ds ++ B.drop ds.length
 | [],A,B,_=>by simp [putCells]
 | d :: r,A,[],h=>by simp at h
 | d :: r,A,b :: B,h=>by
  have e:(A++b :: B).set A.length d=(A++[d])++B:=by
   rw [List.set_append_right _ _ (Nat.le_refl _)];simp
  have ih:=put_at r (A++[d]) B (by simpa using h)
  simp only [putCells,e]
  rw [show A.length+1=(A++[d]).length by simp,ih]
  simp
theorem put_row {rows : List (List C)} {zs ds : List C} {m k i : Nat} (hz : zs.length = k) (hd : ds.length = k) (hr : (rows.flatten).length = i * k) :
 putCells (rows.flatten++(List.replicate (m+1) zs).flatten) (i * k) ds=(rows++[ds]).flatten++(List.replicate m zs).flatten:=by
 rw [← hr,put_at _ _ _ (by simp [List.replicate_succ,hz,hd])]
 simp [List.replicate_succ,hz,hd]
theorem szIntS (xs:List Int) (hl:xs.length≤mx) (left:Int) (h0:0≤left) (h1:left≤1048576):DC Try.prog 23 [.c (isI xs),DI .i64 left] [] (fun r h=>r=DI .i64 (subZ left xs.length)∧h=[]):=by
 have hmx:=mx_eq
 have ret:∀ (v:Int) (hp:Hp),v=subZ left xs.length→RetOb 0 (fun r h=>r=DI .i64 (subZ left xs.length)∧h=[]) (DI .i64 v) hp:=fun v hp h=>RetOb.plain (d:=DI .i64 _) ⟨by rw [h],rfl⟩ rfl
 generalize hR:(fun (r:D) (h:List (Option (List C)))=>r=DI .i64 (subZ left xs.length)∧h=[])=R at ret ⊢
 clear hR
 by_cases hq:(xs.length:Int)≤left
 ·have g:(left - (xs.length:Int)<0)=False:=eq_false (by omega)
  refine dcZ Try.func23 ?_
  simp only [go_sem,List.length_map,g]
  iterate 4 ((try (refine drvZ Try.func23 ?_;simp only [go_sem,List.length_map,g]));((with_reducible and_intros)<;>try exact sd))
  exact ret _ _ (by rw [subZ,if_pos hq])
 ·have g:(left - (xs.length:Int)<0)=True:=eq_true (by omega)
  refine dcZ Try.func23 ?_
  simp only [go_sem,List.length_map,g]
  iterate 4 ((try (refine drvZ Try.func23 ?_;simp only [go_sem,List.length_map,g]));((with_reducible and_intros)<;>try exact sd))
  exact ret _ _ (by rw [subZ,if_neg hq])
theorem szIntSSOf (l : List (List Int)) (hl : l.length ≤ mx) (hc : ∀ x ∈ l, ∀ left : Int, 0 ≤ left → left ≤ 1048576 → DC Try.prog 23 [.c (isI x), DI .i64 left] [] (fun r h => r = DI .i64 (subZ left (List.length x)) ∧ h = [])) (left : Int) (h0 : 0 ≤ left) (h1 : left ≤ 1048576) :
 DC Try.prog 25 [.c (.isl 1 ((l.map fun a=>[isI a]))),DI .i64 left] [] (fun r h=>r=DI .i64 (subZ left (szIL l))∧h=[]):=by
 have hmx:=mx_eq
 have ret:∀ (v:Int) (hp:Hp),v=subZ left (szIL l)→RetOb 0 (fun r h=>r=DI .i64 (subZ left (szIL l))∧h=[]) (DI .i64 v) hp:=fun v hp h=>RetOb.plain (d:=DI .i64 _) ⟨by rw [h],rfl⟩ rfl
 generalize hR:(fun (r:D) (h:List (Option (List C)))=>r=DI .i64 (subZ left (szIL l))∧h=[])=R at ret ⊢
 clear hR
 rw [szIL_eq,sum_split] at ret
 have hrl:((l.map fun a=>[isI a])).length=l.length:=by simp [List.length_map]
 by_cases hq:(l.length:Int)≤left
 ·have g:(left - (l.length:Int)<0)=False:=eq_false (by omega)
  refine dcZ Try.func25 ?_
  simp only [go_sem,hrl,g]
  iterate 4 ((try (refine drvZ Try.func25 ?_;simp only [go_sem,hrl,g]));((with_reducible and_intros)<;>try exact sd))
  refine Go.loopQ (fun i:Nat=>[(0,.c (.isl 1 ((l.map fun a=>[isI a])))),(1,DI .i64 (left - l.length - ((l.take i).map (List.length)).sum)),(5,DI .i64 i)]) (fun _=>[]) 1024 (fun i=>i≤l.length∧(l.length+((l.take i).map (List.length)).sum:Int)≤left) (fun i=>l.length - i) ?_ 0 some [] _ ⟨by omega,by simpa using hq⟩ ?_
  ·rintro i ⟨hi,hI⟩ again
   rcases Nat.lt_or_ge i l.length with hlt | hge
   ·obtain ⟨x,hx⟩:∃ x,l[i]? = some x:=⟨l[i],by simp [hlt]⟩
    have hxl:((l.map fun a=>[isI a]))[i]? = some [isI x]:=by rw [List.getElem?_map,hx];rfl
    have hst:=sum_take (List.length) hx
    have hcx:=hc x (List.mem_of_getElem? hx) (left - l.length - ((l.take i).map (List.length)).sum) (by omega) (by omega)
    generalize hB:((l.take i).map (List.length)).sum=B at *
    have hB2:=hst.1
    have hB3:=hst.2
    by_cases hq2:(List.length x:Int)≤left - l.length - B
    ·rw [subZ,if_pos hq2] at hcx
     have g2:(left - (l.length:Int) - (B:Int) - (List.length x:Int)<0)=False:=eq_false (by omega)
     have hnx:left - (l.length:Int) - (((l.take (i+1)).map (List.length)).sum:Int)=left - l.length - B - List.length x:=by rw [hB2];omega
     generalize List.length x=z at *
     generalize hRW:(l.map fun a=>[isI a])=rows at *
     refine drvL Try.func25 ?_
     simp only [go_sem,hrl,hlt,hxl]
     iterate 6 ((try (refine drvZ Try.func25 ?_;simp only [go_sem,hrl,hlt,hxl,g2]));((with_reducible and_intros)<;>try exact sd);(try first | refine XK.p hcx ok23 ?_ | refine XK.gp hcx ok23 ?_))
     refine again (i+1) some [] _ ⟨hlt,by omega⟩ (by omega) ?_
     simp only [go_sem,TmOK,DM,DMs,CM,CMs,forall_eq,exists_eq_left,Mq,HpOK,LowOK]
     simp only [List.map_take] at hnx
     simp [hnx]
    ·rw [subZ,if_neg hq2] at hcx
     have htot:¬ ((l.length+(l.map (List.length)).sum:Nat):Int)≤left:=by omega
     generalize List.length x=z at *
     generalize hRW:(l.map fun a=>[isI a])=rows at *
     refine drvL Try.func25 ?_
     simp only [go_sem,hrl,hlt,hxl]
     iterate 6 ((try (refine drvZ Try.func25 ?_;simp only [go_sem,hrl,hlt,hxl]));((with_reducible and_intros)<;>try exact sd);(try first | refine XK.p hcx ok23 ?_ | refine XK.gp hcx ok23 ?_))
     exact ret _ _ (by rw [subZ,if_neg htot])
   ·obtain rfl:i=l.length:=by omega
    have hn:¬ l.length<l.length:=by omega
    rw [List.take_length] at hI
    generalize hRW:(l.map fun a=>[isI a])=rows at *
    simp only [List.take_length]
    refine drvL Try.func25 ?_
    simp only [go_sem,hrl,hn]
    iterate 3 ((try (refine drvZ Try.func25 ?_;simp only [go_sem,hrl,hn]));((with_reducible and_intros)<;>try exact sd))
    exact ret _ _ (by rw [subZ,if_pos (by omega)];omega)
  ·simp only [go_sem,TmOK,DM,DMs,CM,CMs,forall_eq,exists_eq_left,Mq,HpOK,LowOK]
   try simp
 ·have g:(left - (l.length:Int)<0)=True:=eq_true (by omega)
  refine dcZ Try.func25 ?_
  simp only [go_sem,hrl,g]
  iterate 4 ((try (refine drvZ Try.func25 ?_;simp only [go_sem,hrl,g]));((with_reducible and_intros)<;>try exact sd))
  exact ret _ _ (by rw [subZ,if_neg (by omega)])
theorem szMemoryOf (m : Mm) (hv : ∀ left : Int, 0 ≤ left → left ≤ 1048576 → DC Try.prog 23 [.c (isI m.vals), DI .i64 left] [] (fun r h => r = DI .i64 (subZ left (m.vals.length)) ∧ h = [])) (ha : ∀ left : Int, 0 ≤ left → left ≤ 1048576 → DC Try.prog 25 [.c (.isl 1 (m.arrays.map fun a => [isI a])), DI .i64 left] [] (fun r h => r = DI .i64 (subZ left (szIL m.arrays)) ∧ h = [])) (left : Int) (h0 : 0 ≤ left) (h1 : left ≤ 1048576) :
 DC Try.prog 8 [.agg m.cells,DI .i64 left] [] (fun r h=>r=DI .i64 (subZ left (m.vals.length+szIL m.arrays))∧h=[]):=by
 have hmx:=mx_eq
 have ret:∀ (u:Int) (hp:Hp),u=subZ left (m.vals.length+szIL m.arrays)→RetOb 0 (fun r h=>r=DI .i64 (subZ left (m.vals.length+szIL m.arrays))∧h=[]) (DI .i64 u) hp:=fun u hp h=>RetOb.plain (d:=DI .i64 _) ⟨by rw [h],rfl⟩ rfl
 generalize hR:(fun (r:D) (h:List (Option (List C)))=>r=DI .i64 (subZ left (m.vals.length+szIL m.arrays))∧h=[])=R at ret ⊢
 clear hR
 obtain ⟨va,arr⟩:=m
 simp only [Mm.cells] at *
 generalize hz1:va.length=z1 at *
 generalize szIL arr=z2 at *
 have k0:=hv (left) (by omega) (by omega)
 by_cases q0:((z1:Nat):Int)≤left
 ·rw [subZ,if_pos q0] at k0
  have g0:(left - ((z1:Nat):Int)<0)=False:=eq_false (by omega)
  have k1:=ha (left - ((z1:Nat):Int)) (by omega) (by omega)
  by_cases q1:((z2:Nat):Int)≤left - ((z1:Nat):Int)
  ·rw [subZ,if_pos q1] at k1
   have g1:(left - ((z1:Nat):Int) - ((z2:Nat):Int)<0)=False:=eq_false (by omega)
   refine dcZ Try.func8 ?_
   simp only [go_sem,g0,g1]
   iterate 10 ((try (refine drvZ Try.func8 ?_;simp only [go_sem,g0,g1]));((with_reducible and_intros)<;>try exact sd);(try first | refine XK.p k0 ok23 ?_ | refine XK.gp k0 ok23 ?_ | refine XK.p k1 ok25 ?_ | refine XK.gp k1 ok25 ?_))
   exact ret _ _ (by rw [subZ,if_pos (by omega)]<;>omega)
  ·rw [subZ,if_neg q1] at k1
   refine dcZ Try.func8 ?_
   simp only [go_sem,g0]
   iterate 10 ((try (refine drvZ Try.func8 ?_;simp only [go_sem,g0]));((with_reducible and_intros)<;>try exact sd);(try first | refine XK.p k0 ok23 ?_ | refine XK.gp k0 ok23 ?_ | refine XK.p k1 ok25 ?_ | refine XK.gp k1 ok25 ?_))
   exact ret _ _ (by rw [subZ,if_neg (by omega)])
 ·rw [subZ,if_neg q0] at k0
  refine dcZ Try.func8 ?_
  simp only [go_sem]
  iterate 10 ((try (refine drvZ Try.func8 ?_;simp only [go_sem]));((with_reducible and_intros)<;>try exact sd);(try first | refine XK.p k0 ok23 ?_ | refine XK.gp k0 ok23 ?_))
  exact ret _ _ (by rw [subZ,if_neg (by omega)])
theorem szMemory_c (m:Mm) (hb:MmB m) (left:Int) (h0:0≤left) (h1:left≤1048576):DC Try.prog 8 [.agg m.cells,DI .i64 left] [] (fun r h=>r=DI .i64 (subZ left (szM m))∧h=[]) :=
 szMemoryOf m (fun l a b=>szIntS m.vals hb.nv l a b) (szIntSSOf m.arrays hb.na fun x hx l a b=>szIntS x (hb.ar x hx) l a b) left h0 h1
theorem eqIntST (l:List (Int)) (hl:l.length≤mx)  : DC Try.prog 33 [.c (.isl 1 ((l.map fun n=>[I64 n]))),.c (.isl 1 ((l.map fun n=>[I64 n])))] [] (fun r h=>r=DB true∧h=[]):=by
 have hmx:=mx_eq
 have ret:∀ hp:Hp,RetOb 0 (fun r h=>r=DB true∧h=[]) (DB true) hp:=fun hp=>RetOb.plain (d:=DB true) ⟨rfl,rfl⟩ rfl
 generalize hR:(fun (r:D) (h:List (Option (List C)))=>r=DB true∧h=[])=R at ret ⊢
 clear hR
 have hrl:((l.map fun n=>[I64 n])).length=l.length:=by simp [List.length_map]
 have hrx:∀ (i:Nat) x,l[i]? = some x→True:=fun _ _ _=>trivial
 refine dcZ Try.func33 ?_
 simp only [go_sem,hrl,bne_self_eq_false]
 iterate 4 ((try (refine drvZ Try.func33 ?_;simp only [go_sem,hrl,bne_self_eq_false]));((with_reducible and_intros)<;>try exact sd))
 refine Go.loopQ (fun i:Nat=>[(0,.c (.isl 1 ((l.map fun n=>[I64 n])))),(1,.c (.isl 1 ((l.map fun n=>[I64 n])))),(5,DI .i64 i)]) (fun _=>[]) 1024 (fun i=>i≤l.length) (fun i=>l.length - i) ?_ 0 some [] _ (by omega) ?_
 ·intro i hi again
  rcases Nat.lt_or_ge i l.length with hlt | hge
  ·obtain ⟨x,hx⟩:∃ x,l[i]? = some x:=⟨l[i],by simp [hlt]⟩
   have hxl:((l.map fun n=>[I64 n]))[i]? = some [I64 x]:=by rw [List.getElem?_map,hx];rfl
   generalize hRW:(l.map fun n=>[I64 n])=rows at *
   refine drvL Try.func33 ?_
   simp only [go_sem,hrl,hlt,hxl,bne_self_eq_false]
   iterate 6 ((try (refine drvZ Try.func33 ?_;simp only [go_sem,hrl,hlt,hxl,bne_self_eq_false]));((with_reducible and_intros)<;>try exact sd))
   refine again (i+1) some [] _ hlt (by omega) ?_
   simp only [go_sem,TmOK,DM,DMs,CM,CMs,forall_eq,exists_eq_left,Mq,HpOK,LowOK]
   try simp
  ·have hn:¬ i<l.length:=by omega
   generalize hRW:(l.map fun n=>[I64 n])=rows at *
   refine drvL Try.func33 ?_
   simp only [go_sem,hrl,hn]
   iterate 3 ((try (refine drvZ Try.func33 ?_;simp only [go_sem,hrl,hn]));((with_reducible and_intros)<;>try exact sd))
   exact ret _
 ·simp only [go_sem,TmOK,DM,DMs,CM,CMs,forall_eq,exists_eq_left,Mq,HpOK,LowOK]
  try simp
theorem eqIntSSOf (l:List (List Int)) (hl:l.length≤mx) (hc:∀ x ∈ l,DC Try.prog 33 [.c (isI x),.c (isI x)] [] (fun r h=>r=DB true∧h=[])):DC Try.prog 35 [.c (.isl 1 ((l.map fun a=>[isI a]))),.c (.isl 1 ((l.map fun a=>[isI a])))] [] (fun r h=>r=DB true∧h=[]):=by
 have hmx:=mx_eq
 have ret:∀ hp:Hp,RetOb 0 (fun r h=>r=DB true∧h=[]) (DB true) hp:=fun hp=>RetOb.plain (d:=DB true) ⟨rfl,rfl⟩ rfl
 generalize hR:(fun (r:D) (h:List (Option (List C)))=>r=DB true∧h=[])=R at ret ⊢
 clear hR
 have hrl:((l.map fun a=>[isI a])).length=l.length:=by simp [List.length_map]
 have hrx:∀ (i:Nat) x,l[i]? = some x→True:=fun _ _ _=>trivial
 refine dcZ Try.func35 ?_
 simp only [go_sem,hrl,bne_self_eq_false]
 iterate 4 ((try (refine drvZ Try.func35 ?_;simp only [go_sem,hrl,bne_self_eq_false]));((with_reducible and_intros)<;>try exact sd))
 refine Go.loopQ (fun i:Nat=>[(0,.c (.isl 1 ((l.map fun a=>[isI a])))),(1,.c (.isl 1 ((l.map fun a=>[isI a])))),(5,DI .i64 i)]) (fun _=>[]) 1024 (fun i=>i≤l.length) (fun i=>l.length - i) ?_ 0 some [] _ (by omega) ?_
 ·intro i hi again
  rcases Nat.lt_or_ge i l.length with hlt | hge
  ·obtain ⟨x,hx⟩:∃ x,l[i]? = some x:=⟨l[i],by simp [hlt]⟩
   have hxl:((l.map fun a=>[isI a]))[i]? = some [isI x]:=by rw [List.getElem?_map,hx];rfl
   have hcx:=hc x (List.mem_of_getElem? hx)
   generalize hRW:(l.map fun a=>[isI a])=rows at *
   refine drvL Try.func35 ?_
   simp only [go_sem,hrl,hlt,hxl,bne_self_eq_false]
   iterate 6 ((try (refine drvZ Try.func35 ?_;simp only [go_sem,hrl,hlt,hxl,bne_self_eq_false]));((with_reducible and_intros)<;>try exact sd);(try first | refine XK.p hcx ok33 ?_ | refine XK.gp hcx ok33 ?_))
   refine again (i+1) some [] _ hlt (by omega) ?_
   simp only [go_sem,TmOK,DM,DMs,CM,CMs,forall_eq,exists_eq_left,Mq,HpOK,LowOK]
   try simp
  ·have hn:¬ i<l.length:=by omega
   generalize hRW:(l.map fun a=>[isI a])=rows at *
   refine drvL Try.func35 ?_
   simp only [go_sem,hrl,hn]
   iterate 3 ((try (refine drvZ Try.func35 ?_;simp only [go_sem,hrl,hn]));((with_reducible and_intros)<;>try exact sd))
   exact ret _
 ·simp only [go_sem,TmOK,DM,DMs,CM,CMs,forall_eq,exists_eq_left,Mq,HpOK,LowOK]
  try simp
theorem eqMemoryOf (m:Mm) (hv:DC Try.prog 33 [.c (isI m.vals),.c (isI m.vals)] [] (fun r h=>r=DB true∧h=[])) (ha:DC Try.prog 35 [.c (.isl 1 (m.arrays.map fun a=>[isI a])),.c (.isl 1 (m.arrays.map fun a=>[isI a]))] [] (fun r h=>r=DB true∧h=[])):DC Try.prog 14 [.agg m.cells,.agg m.cells] [] (fun r h=>r=DB true∧h=[]):=by
 have hmx:=mx_eq
 have ret:∀ hp:Hp,RetOb 0 (fun r h=>r=DB true∧h=[]) (DB true) hp:=fun hp=>RetOb.plain (d:=DB true) ⟨rfl,rfl⟩ rfl
 generalize hR:(fun (r:D) (h:List (Option (List C)))=>r=DB true∧h=[])=R at ret ⊢
 clear hR
 obtain ⟨va,arr⟩:=m
 simp only [Mm.cells] at *
 refine dcZ Try.func14 ?_
 simp only [go_sem,bne_self_eq_false]
 iterate 10 ((try (refine drvZ Try.func14 ?_;simp only [go_sem,bne_self_eq_false]));((with_reducible and_intros)<;>try exact sd);(try first | refine XK.p hv ok33 ?_ | refine XK.gp hv ok33 ?_ | refine XK.p ha ok35 ?_ | refine XK.gp ha ok35 ?_))
 exact ret _
theorem eqMemory_c (m:Mm) (hb:MmB m):DC Try.prog 14 [.agg m.cells,.agg m.cells] [] (fun r h=>r=DB true∧h=[]) :=
 eqMemoryOf m (eqIntST m.vals hb.nv) (eqIntSSOf m.arrays hb.na fun x hx=>eqIntST x (hb.ar x hx))
theorem toIntST (l:List (Int)) (hl:l.length≤1048576)  : DC Try.prog 29 [.c (.isl 1 ((l.map fun n=>[I64 n])))] [] (fun r h=>r = .c (.isl 1 ((l.map fun n=>[I64 n])))∧h=[]):=by
 have hmx:=mx_eq
 have hrl:((l.map fun n=>[I64 n])).length=l.length:=by simp [List.length_map]
 have hrw:∀ x ∈ ((l.map fun n=>[I64 n])),x.length=1:=fun x hx=>by obtain ⟨e,_,rfl⟩:=List.mem_map.1 hx;rfl
 have hrk:∀ x ∈ ((l.map fun n=>[I64 n])),∀ c ∈ x,kf c=true:=fun x hx c hc=>by obtain ⟨e,_,rfl⟩:=List.mem_map.1 hx;simp only [List.mem_singleton] at hc;subst hc;rfl
 have ret:∀ (k n:Nat) (cs:List C) (hp:Hp),hp k=some (some cs)→cs=((l.map fun n=>[I64 n])).flatten→n=l.length→RetOb 0 (fun r h=>r = .c (.isl 1 ((l.map fun n=>[I64 n])))∧h=[]) (.c (.msl k 1 0 n)) hp:=fun k n cs hp h1 h2 h3=>RetOb.frozen (xs:=(l.map fun n=>[I64 n])) ⟨rfl,rfl⟩ (by rw [h1,h2]) (by rw [h3,hrl]) hrw hrk
 generalize hR:(fun (r:D) (h:List (Option (List C)))=>r = .c (.isl 1 ((l.map fun n=>[I64 n])))∧h=[])=R at ret ⊢
 clear hR
 have hrx:∀ (i:Nat) x,l[i]? = some x→True:=fun _ _ _=>trivial
 have flr:∀ i,i≤l.length→((((l.map fun n=>[I64 n])).take i).flatten).length=i * 1:=fun i hi=>by
  have:=List.length_flatten (L:=((l.map fun n=>[I64 n])).take i)
  rw [this,show ((((l.map fun n=>[I64 n])).take i).map List.length)=List.replicate i 1 from List.eq_replicate_iff.2 ⟨by simp [hrl];omega,fun b hb=>by obtain ⟨x,hx,rfl⟩:=List.mem_map.1 hb;exact hrw x (List.mem_of_mem_take hx)⟩]
  simp
 have hzk:∀ c ∈ ([I64 0]:List C),kf c=true:=by simp [kf]
 have hbk0:∀ c ∈ (List.replicate l.length ([I64 0]:List C)).flatten,kf c=true:=fun c hc=>by
  obtain ⟨y,hy,h2⟩:=List.mem_flatten.1 hc
  rw [List.eq_of_mem_replicate hy] at h2
  exact hzk c h2
 refine dcZ Try.func29 ?_
 simp only [go_sem,hrl]
 iterate 4 ((try (refine drvZ Try.func29 ?_;simp only [go_sem,hrl]));((with_reducible and_intros)<;>try exact sd))
 refine Go.loopQ (fun i:Nat=>[(0,.c (.isl 1 ((l.map fun n=>[I64 n])))),(3,.c (.msl 192 1 0 l.length)),(4,DI .i64 i)]) (fun i=>[(192,some ((((l.map fun n=>[I64 n])).take i).flatten++(List.replicate (l.length - i) [I64 0]).flatten))]) 1024 (fun i=>i≤l.length) (fun i=>l.length - i) ?_ 0 some [] _ (by omega) ?_
 ·intro i hi again
  rcases Nat.lt_or_ge i l.length with hlt | hge
  ·obtain ⟨x,hx⟩:∃ x,l[i]? = some x:=⟨l[i],by simp [hlt]⟩
   have hxl:((l.map fun n=>[I64 n]))[i]? = some [I64 x]:=by rw [List.getElem?_map,hx];rfl
   have hput:=put_row (rows:=((l.map fun n=>[I64 n])).take i) (zs:=[I64 0]) (ds:=[I64 x]) (m:=l.length - (i+1)) (k:=1) (i:=i) rfl rfl (flr i hi)
   rw [show l.length - (i+1)+1=l.length - i by omega,← (show ((l.map fun n=>[I64 n])).take (i+1)=((l.map fun n=>[I64 n])).take i++[[I64 x]] by rw [List.take_succ_eq_append_getElem (by rw [hrl];exact hlt)];congr 2;exact (List.getElem?_eq_some_iff.1 hxl).2)] at hput
   have hbl:((((l.map fun n=>[I64 n])).take i).flatten++(List.replicate (l.length - i) [I64 0]).flatten).length=l.length * 1:=by
    rw [List.length_append,flr i hi]
    have:((List.replicate (l.length - i) ([I64 0]:List C)).flatten).length=(l.length - i) * 1:=by simp
    rw [this];omega
   have hbk:∀ c ∈ (((l.map fun n=>[I64 n])).take (i+1)).flatten++(List.replicate (l.length - (i+1)) ([I64 0]:List C)).flatten,kf c=true:=fun c hc=>by
    rcases List.mem_append.1 hc with h1 | h1
    ·obtain ⟨y,hy,h2⟩:=List.mem_flatten.1 h1
     exact hrk y (List.mem_of_mem_take hy) c h2
    ·obtain ⟨y,hy,h2⟩:=List.mem_flatten.1 h1
     rw [List.eq_of_mem_replicate hy] at h2
     exact hzk c h2
   generalize hB1:(((l.map fun n=>[I64 n])).take i).flatten++(List.replicate (l.length - i) ([I64 0]:List C)).flatten=B1 at *
   generalize hB2:(((l.map fun n=>[I64 n])).take (i+1)).flatten++(List.replicate (l.length - (i+1)) ([I64 0]:List C)).flatten=B2 at *
   generalize hRW:(l.map fun n=>[I64 n])=rows at *
   refine drvL Try.func29 ?_
   simp only [go_sem,hrl,hlt,hxl]
   iterate 6 ((try (refine drvZ Try.func29 ?_;simp only [go_sem,hrl,hlt,hxl,hput]));((with_reducible and_intros)<;>try exact sd))
   simp only [putCells,Nat.mul_one,isI] at hput
   refine again (i+1) some [] _ hlt (by omega) ?_
   simp only [go_sem,TmOK,DM,DMs,CM,CMs,forall_eq,exists_eq_left,Mq,HpOK,LowOK,hput,hRW,hB2]
   exact ⟨⟨by simp,CMs.kf hbk⟩,by simp⟩
  ·obtain rfl:i=l.length:=by omega
   have hn:¬ l.length<l.length:=by omega
   have he:(((l.map fun n=>[I64 n])).take l.length).flatten++(List.replicate (l.length - l.length) ([I64 0]:List C)).flatten=((l.map fun n=>[I64 n])).flatten:=by
    rw [List.take_of_length_le (by rw [hrl];exact Nat.le_refl _),Nat.sub_self];simp
   generalize hB1:(((l.map fun n=>[I64 n])).take l.length).flatten++(List.replicate (l.length - l.length) ([I64 0]:List C)).flatten=B1 at *
   generalize hRW:(l.map fun n=>[I64 n])=rows at *
   refine drvL Try.func29 ?_
   simp only [go_sem,hrl,hn]
   iterate 3 ((try (refine drvZ Try.func29 ?_;simp only [go_sem,hrl,hn]));((with_reducible and_intros)<;>try exact sd))
   exact ret _ _ _ _ rfl he rfl
 ·simp only [go_sem,TmOK,DM,DMs,CM,CMs,forall_eq,exists_eq_left,Mq,HpOK,LowOK]
  refine ⟨⟨by simp,?_⟩,by simp⟩
  have e0:([]:List (List C)).flatten++(List.replicate l.length ([I64 0]:List C)).flatten=(List.replicate l.length ([I64 0]:List C)).flatten:=rfl
  exact CMs.kf hbk0
theorem toIntSSOf (l:List (List Int)) (hl:l.length≤1048576) (hc:∀ x ∈ l,DC Try.prog 29 [.c (isI x)] [] (fun r h=>r = .c (isI x)∧h=[])):DC Try.prog 31 [.c (.isl 1 ((l.map fun a=>[isI a])))] [] (fun r h=>r = .c (.isl 1 ((l.map fun a=>[isI a])))∧h=[]):=by
 have hmx:=mx_eq
 have hrl:((l.map fun a=>[isI a])).length=l.length:=by simp [List.length_map]
 have hrw:∀ x ∈ ((l.map fun a=>[isI a])),x.length=1:=fun x hx=>by obtain ⟨e,_,rfl⟩:=List.mem_map.1 hx;rfl
 have hrk:∀ x ∈ ((l.map fun a=>[isI a])),∀ c ∈ x,kf c=true:=fun x hx c hc=>by obtain ⟨e,_,rfl⟩:=List.mem_map.1 hx;simp only [List.mem_singleton] at hc;subst hc;rfl
 have ret:∀ (k n:Nat) (cs:List C) (hp:Hp),hp k=some (some cs)→cs=((l.map fun a=>[isI a])).flatten→n=l.length→RetOb 0 (fun r h=>r = .c (.isl 1 ((l.map fun a=>[isI a])))∧h=[]) (.c (.msl k 1 0 n)) hp:=fun k n cs hp h1 h2 h3=>RetOb.frozen (xs:=(l.map fun a=>[isI a])) ⟨rfl,rfl⟩ (by rw [h1,h2]) (by rw [h3,hrl]) hrw hrk
 generalize hR:(fun (r:D) (h:List (Option (List C)))=>r = .c (.isl 1 ((l.map fun a=>[isI a])))∧h=[])=R at ret ⊢
 clear hR
 have hrx:∀ (i:Nat) x,l[i]? = some x→True:=fun _ _ _=>trivial
 have flr:∀ i,i≤l.length→((((l.map fun a=>[isI a])).take i).flatten).length=i * 1:=fun i hi=>by
  have:=List.length_flatten (L:=((l.map fun a=>[isI a])).take i)
  rw [this,show ((((l.map fun a=>[isI a])).take i).map List.length)=List.replicate i 1 from List.eq_replicate_iff.2 ⟨by simp [hrl];omega,fun b hb=>by obtain ⟨x,hx,rfl⟩:=List.mem_map.1 hb;exact hrw x (List.mem_of_mem_take hx)⟩]
  simp
 have hzk:∀ c ∈ ([C.v (.slice none 0 0)]:List C),kf c=true:=by simp [kf]
 have hbk0:∀ c ∈ (List.replicate l.length ([C.v (.slice none 0 0)]:List C)).flatten,kf c=true:=fun c hc=>by
  obtain ⟨y,hy,h2⟩:=List.mem_flatten.1 hc
  rw [List.eq_of_mem_replicate hy] at h2
  exact hzk c h2
 refine dcZ Try.func31 ?_
 simp only [go_sem,hrl]
 iterate 4 ((try (refine drvZ Try.func31 ?_;simp only [go_sem,hrl]));((with_reducible and_intros)<;>try exact sd))
 refine Go.loopQ (fun i:Nat=>[(0,.c (.isl 1 ((l.map fun a=>[isI a])))),(3,.c (.msl 192 1 0 l.length)),(4,DI .i64 i)]) (fun i=>[(192,some ((((l.map fun a=>[isI a])).take i).flatten++(List.replicate (l.length - i) [C.v (.slice none 0 0)]).flatten))]) 1024 (fun i=>i≤l.length) (fun i=>l.length - i) ?_ 0 some [] _ (by omega) ?_
 ·intro i hi again
  rcases Nat.lt_or_ge i l.length with hlt | hge
  ·obtain ⟨x,hx⟩:∃ x,l[i]? = some x:=⟨l[i],by simp [hlt]⟩
   have hxl:((l.map fun a=>[isI a]))[i]? = some [isI x]:=by rw [List.getElem?_map,hx];rfl
   have hcx:=hc x (List.mem_of_getElem? hx)
   have hput:=put_row (rows:=((l.map fun a=>[isI a])).take i) (zs:=[C.v (.slice none 0 0)]) (ds:=[isI x]) (m:=l.length - (i+1)) (k:=1) (i:=i) rfl rfl (flr i hi)
   rw [show l.length - (i+1)+1=l.length - i by omega,← (show ((l.map fun a=>[isI a])).take (i+1)=((l.map fun a=>[isI a])).take i++[[isI x]] by rw [List.take_succ_eq_append_getElem (by rw [hrl];exact hlt)];congr 2;exact (List.getElem?_eq_some_iff.1 hxl).2)] at hput
   have hbl:((((l.map fun a=>[isI a])).take i).flatten++(List.replicate (l.length - i) [C.v (.slice none 0 0)]).flatten).length=l.length * 1:=by
    rw [List.length_append,flr i hi]
    have:((List.replicate (l.length - i) ([C.v (.slice none 0 0)]:List C)).flatten).length=(l.length - i) * 1:=by simp
    rw [this];omega
   have hbk:∀ c ∈ (((l.map fun a=>[isI a])).take (i+1)).flatten++(List.replicate (l.length - (i+1)) ([C.v (.slice none 0 0)]:List C)).flatten,kf c=true:=fun c hc=>by
    rcases List.mem_append.1 hc with h1 | h1
    ·obtain ⟨y,hy,h2⟩:=List.mem_flatten.1 h1
     exact hrk y (List.mem_of_mem_take hy) c h2
    ·obtain ⟨y,hy,h2⟩:=List.mem_flatten.1 h1
     rw [List.eq_of_mem_replicate hy] at h2
     exact hzk c h2
   generalize hB1:(((l.map fun a=>[isI a])).take i).flatten++(List.replicate (l.length - i) ([C.v (.slice none 0 0)]:List C)).flatten=B1 at *
   generalize hB2:(((l.map fun a=>[isI a])).take (i+1)).flatten++(List.replicate (l.length - (i+1)) ([C.v (.slice none 0 0)]:List C)).flatten=B2 at *
   generalize hRW:(l.map fun a=>[isI a])=rows at *
   refine drvL Try.func31 ?_
   simp only [go_sem,hrl,hlt,hxl]
   iterate 6 ((try (refine drvZ Try.func31 ?_;simp only [go_sem,hrl,hlt,hxl,hput]));((with_reducible and_intros)<;>try exact sd);(try first | refine XK.p hcx ok29 ?_ | refine XK.gp hcx ok29 ?_))
   simp only [putCells,Nat.mul_one,isI] at hput
   refine again (i+1) some [] _ hlt (by omega) ?_
   simp only [go_sem,TmOK,DM,DMs,CM,CMs,forall_eq,exists_eq_left,Mq,HpOK,LowOK,hput,hRW,hB2]
   exact ⟨⟨by simp,CMs.kf hbk⟩,by simp⟩
  ·obtain rfl:i=l.length:=by omega
   have hn:¬ l.length<l.length:=by omega
   have he:(((l.map fun a=>[isI a])).take l.length).flatten++(List.replicate (l.length - l.length) ([C.v (.slice none 0 0)]:List C)).flatten=((l.map fun a=>[isI a])).flatten:=by
    rw [List.take_of_length_le (by rw [hrl];exact Nat.le_refl _),Nat.sub_self];simp
   generalize hB1:(((l.map fun a=>[isI a])).take l.length).flatten++(List.replicate (l.length - l.length) ([C.v (.slice none 0 0)]:List C)).flatten=B1 at *
   generalize hRW:(l.map fun a=>[isI a])=rows at *
   refine drvL Try.func31 ?_
   simp only [go_sem,hrl,hn]
   iterate 3 ((try (refine drvZ Try.func31 ?_;simp only [go_sem,hrl,hn]));((with_reducible and_intros)<;>try exact sd))
   exact ret _ _ _ _ rfl he rfl
 ·simp only [go_sem,TmOK,DM,DMs,CM,CMs,forall_eq,exists_eq_left,Mq,HpOK,LowOK]
  refine ⟨⟨by simp,?_⟩,by simp⟩
  have e0:([]:List (List C)).flatten++(List.replicate l.length ([C.v (.slice none 0 0)]:List C)).flatten=(List.replicate l.length ([C.v (.slice none 0 0)]:List C)).flatten:=rfl
  exact CMs.kf hbk0
theorem toMemoryOf (m:Mm) (hv:DC Try.prog 29 [.c (isI m.vals)] [] (fun r h=>r = .c (isI m.vals)∧h=[])) (ha:DC Try.prog 31 [.c (.isl 1 (m.arrays.map fun a=>[isI a]))] [] (fun r h=>r = .c (.isl 1 (m.arrays.map fun a=>[isI a]))∧h=[])):DC Try.prog 11 [.agg m.cells] [] (fun r h=>r = .agg m.cells∧h=[]):=by
 have hmx:=mx_eq
 obtain ⟨va,arr⟩:=m
 simp only [Mm.cells] at *
 refine dcZ Try.func11 ?_
 simp only [go_sem]
 iterate 10 ((try (refine drvZ Try.func11 ?_;simp only [go_sem]));((with_reducible and_intros)<;>try exact sd);(try first | refine XK.p hv ok29 ?_ | refine XK.gp hv ok29 ?_ | refine XK.p ha ok31 ?_ | refine XK.gp ha ok31 ?_))
 refine RetOb.ofQ (fun _=>none) [] (.agg [isI va,.isl 1 (arr.map fun a=>[isI a])]) [] ?_ ⟨rfl,rfl⟩ (by simp)
 all_goals simp [Pg.cells,Mm.cells,St1.cells,Ex.cells,isI,enumL,DM,DMs,CM,CMs,HpOK,LowOK,hOf,upd,kf]
structure MmN (m : Mm) : Prop where
 nv:m.vals.length≤1048576
 na:m.arrays.length≤1048576
 ar:∀ a ∈ m.arrays,a.length≤1048576
theorem mmN_of {m:Mm} (h:szM m≤1048576):MmN m:=by
 unfold szM at h
 rw [szIL_eq] at h
 have h1:=sum_split List.length m.arrays
 exact ⟨by omega,by omega,fun a ha=>by have:=mem_sum List.length ha;omega⟩
theorem toMemory_c (m:Mm) (hb:MmN m):DC Try.prog 11 [.agg m.cells] [] (fun r h=>r = .agg m.cells∧h=[]) :=
 toMemoryOf m (toIntST m.vals hb.nv) (toIntSSOf m.arrays hb.na fun x hx=>toIntST x (hb.ar x hx))
theorem celX1:Try.prog.cellsOf 3=1:=by kernel_rfl
theorem celX2:Try.prog.cellsOf 22=1:=by kernel_rfl
theorem sh_int {ks:List C} (h:Sh Try.prog 3 ks):∃ n:Int,ks=[I64 n]∧True:=by
 obtain ⟨n,rfl,_⟩:=h.int_of Try.underlying3
 exact ⟨n,rfl,trivial⟩
theorem sh_ints {ks:List C} (h:Sh Try.prog 22 ks):∃ l:List Int,ks=[isI l]∧l.length≤mx:=by
 obtain ⟨l,rfl,hl,_⟩:=h.rows_of (f:=fun n:Int=>[I64 n]) (Q:=fun _=>True) Try.underlying22 fun r hr=>sh_int hr
 exact ⟨l,by rw [celX1];rfl,hl⟩
theorem sh_rows {ks:List C} (h:Sh Try.prog 26 ks):∃ l:List (List Int),ks=[.isl 1 (l.map fun a=>[isI a])]∧l.length≤mx∧∀ a ∈ l,a.length≤mx:=by
 obtain ⟨l,rfl,hl,hq⟩:=h.rows_of (f:=fun a:List Int=>[isI a]) (Q:=fun a=>a.length≤mx) Try.underlying26 fun r hr=>sh_ints hr
 exact ⟨l,by rw [celX2],hl,hq⟩
theorem sh_mem {ks:List C} (h:Sh Try.prog 28 ks):∃ m:Mm,ks=m.cells∧MmB m:=by
 obtain ⟨kss,rfl,hl,hx⟩:=h.st_of Try.underlying28
 match kss,hl,hx with
 | [a,b],_,hx =>
  obtain ⟨va,rfl,h1⟩:=sh_ints (hx 0 _ a rfl rfl)
  obtain ⟨arr,rfl,h2,h3⟩:=sh_rows (hx 1 _ b rfl rfl)
  exact ⟨⟨va,arr⟩,rfl,⟨h1,h2,h3⟩⟩
end Go.Proofs.Ytmjkgjkkpaephaa.CtD
