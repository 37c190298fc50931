/- Contracts of functions of the program, one behind the other, as plain data: what each call returns and which blocks it leaves. -/
import Derived.Test.YtoakidkcppinpaaGreatDFacts
import Derived.Test.YtoakidkcppinpaaGreatDAj
import Derived.Test.YtoakidkcppinpaaGreatDAl
import Derived.Test.YtoakidkcppinpaaGreatDAq
import Derived.Test.YtoakidkcppinpaaGreatDAr
import Derived.Test.YtoakidkcppinpaaGreatDAt
import Derived.Test.YtoakidkcppinpaaGreatDAu
import Derived.Test.YtoakidkcppinpaaGreatDAw
import Derived.Test.YtoakidkcppinpaaGreatDAx
import Derived.Test.YtoakidkcppinpaaGreatDAy
import Derived.Test.YtoakidkcppinpaaGreatDAz
import Derived.Test.YtoakidkcppinpaaGreatDBf
set_option linter.unusedVariables false
set_option linter.unusedSimpArgs false
set_option linter.unusedSectionVars false
set_option maxHeartbeats 16000000
set_option maxRecDepth 100000
namespace Go.Proofs.YtoakidkcppinpaaGreat.CtD
open Go Go.CT CtF CtR
variable [Yn]
open CtL (In Cd codeOK inOK bAt sAt tAft fnd)
theorem foundI (c:Cd) (x:In) (row:List Bool) (hl:row.length=14) (hv:lab3 c.vars) (ha:lab3 c.arrays) (h1:c.vars.length≤1000) (h2:c.arrays.length≤1000) (h3:c.list.length≤1000) (hx:Ir c.vars.length c.arrays.length x):DC Tryz.prog 63 [.agg (cdC c),.agg (inX x),.c (.isl 1 (row.map fun b=>[C.v (.bool b)]))] [] (fun r h=>r=DI .i64 (fnd (hdC c) x row)∧h=[]):=by
 have hmx:=mx_eq
 have hrow:=fun i hi=>row_at hl (i:=i) hi
 have hlab:=fun i hi=>lab_at hv (i:=i) hi
 have hlab2:=fun i hi=>lab_at ha (i:=i) hi
 have ret:∀ (v:Int) (hp:Hp),v=fnd (hdC c) x row→RetOb 0 (fun r h=>r=DI .i64 (fnd (hdC c) x row)∧h=[]) (DI .i64 v) hp:=fun v hp e=>by subst e;exact RetOb.plain (d:=DI .i64 _) ⟨rfl,rfl⟩ rfl
 generalize hR:(fun (r:D) (h:List (Option (List C)))=>r=DI .i64 (fnd (hdC c) x row)∧h=[])=R at ret ⊢
 clear hR
 obtain ⟨vs,ar,l⟩:=c
 obtain ⟨op,xa,xb,xc,xd⟩:=x
 obtain ⟨ho,oa,o3,o5,ob,o2,o4,oc,od,hc0⟩:=hx
 simp only at h1 h2 h3 ho oa o3 o5 ob o2 o4 oc od hc0 hlab hlab2
 simp only [cdC,ints,inX]
 have lk:∀ {α:Type} (L:List α) (i:Nat),L[i]? = none∨∃ z,L[i]? = some z:=fun L i=>by cases h:L[i]? with
  | none=>exact .inl rfl
  | some z=>exact .inr ⟨z,rfl⟩
 by_cases k9:op=9
 ·subst k9
  obtain ⟨a,rfl⟩:∃ k:Nat,xa=k:=⟨xa.toNat,by omega⟩
  have halt:a<14:=by have:=(oa (by omega)).2;rwa [Int.toNat_natCast] at this
  obtain ⟨q3,hq3⟩:=hc0
  have hrc:=hrow xc.toNat hq3
  have hra:=hrow a halt
  generalize hy:bAt row a=y at *
  cases y with
  | true =>
   refine dcZ Tryz.func63 ?_
   simp only [go_sem,hra,halt,hrc]
   iterate 8 ((try (refine drvZ Tryz.func63 ?_;simp only [go_sem,hra,halt,hrc,beq_self_eq_true]));((with_reducible and_intros)<;>try exact sd))
   refine ret _ _ ?_
   simp [fnd,hy]
  | false =>
   have q2:=lk row xb.toNat
   have q4:=lk vs a
   have q5:=lk ar a
   rcases q2 with q2 | ⟨z2,q2⟩<;>rcases q4 with q4 | ⟨z4,q4⟩<;>rcases q5 with q5 | ⟨z5,q5⟩
   all_goals
    refine dcZ Tryz.func63 ?_
    simp only [go_sem,hra,halt,hrc,q2,q4,q5]
    iterate 8 ((try (refine drvZ Tryz.func63 ?_;simp only [go_sem,hra,halt,hrc,q2,q4,q5,beq_self_eq_true]));((with_reducible and_intros)<;>try exact sd))
    refine XK.gskip 10 true (DB false) ?_ (hbT ())
    iterate 4 ((try (refine drvZ Tryz.func63 ?_;simp only [go_sem,hra,halt,hrc,q2,q4,q5,beq_self_eq_true]));((with_reducible and_intros)<;>try exact sd))
    refine XK.gskip 31 true (DB false) ?_ (hbT ())
    iterate 4 ((try (refine drvZ Tryz.func63 ?_;simp only [go_sem,hra,halt,hrc,q2,q4,q5,beq_self_eq_true]));((with_reducible and_intros)<;>try exact sd))
    refine ret _ _ ?_
    simp [fnd,hy]
 by_cases k10:op=10
 ·subst k10
  obtain ⟨a,rfl⟩:∃ k:Nat,xa=k:=⟨xa.toNat,by omega⟩
  have halt:a<14:=by have:=(oa (by omega)).2;rwa [Int.toNat_natCast] at this
  obtain ⟨q3,hq3⟩:=hc0
  have hrc:=hrow xc.toNat hq3
  have hra:=hrow a halt
  generalize hy:bAt row a=y at *
  cases y with
  | true =>
   refine dcZ Tryz.func63 ?_
   simp only [go_sem,hra,halt,hrc]
   iterate 8 ((try (refine drvZ Tryz.func63 ?_;simp only [go_sem,hra,halt,hrc,beq_self_eq_true]));((with_reducible and_intros)<;>try exact sd))
   refine ret _ _ ?_
   simp [fnd,hy]
  | false =>
   have q2:=lk row xb.toNat
   have q4:=lk vs a
   have q5:=lk ar a
   rcases q2 with q2 | ⟨z2,q2⟩<;>rcases q4 with q4 | ⟨z4,q4⟩<;>rcases q5 with q5 | ⟨z5,q5⟩
   all_goals
    refine dcZ Tryz.func63 ?_
    simp only [go_sem,hra,halt,hrc,q2,q4,q5]
    iterate 8 ((try (refine drvZ Tryz.func63 ?_;simp only [go_sem,hra,halt,hrc,q2,q4,q5,beq_self_eq_true]));((with_reducible and_intros)<;>try exact sd))
    refine XK.gskip 10 true (DB false) ?_ (hbT ())
    iterate 4 ((try (refine drvZ Tryz.func63 ?_;simp only [go_sem,hra,halt,hrc,q2,q4,q5,beq_self_eq_true]));((with_reducible and_intros)<;>try exact sd))
    refine XK.gskip 31 true (DB false) ?_ (hbT ())
    iterate 4 ((try (refine drvZ Tryz.func63 ?_;simp only [go_sem,hra,halt,hrc,q2,q4,q5,beq_self_eq_true]));((with_reducible and_intros)<;>try exact sd))
    refine ret _ _ ?_
    simp [fnd,hy]
 by_cases k4:op=4
 ·subst k4
  have oc:=oc (by omega)
  obtain ⟨a,rfl⟩:∃ k:Nat,xa=k:=⟨xa.toNat,by omega⟩
  have halt:a<14:=by have:=(oa (by omega)).2;rwa [Int.toNat_natCast] at this
  obtain ⟨c,rfl⟩:∃ k:Nat,xc=k:=⟨xc.toNat,by omega⟩
  have hclt:c<14:=by have:=(oc).2;rwa [Int.toNat_natCast] at this
  have hra:=hrow a halt
  have hrc:=hrow c hclt
  generalize hy:bAt row c=y at *
  cases y with
  | true =>
   have q2:=lk row xb.toNat
   rcases q2 with q2 | ⟨z2,q2⟩
   all_goals
    refine dcZ Tryz.func63 ?_
    simp only [go_sem,hra,halt,hrc,hclt,q2]
    iterate 8 ((try (refine drvZ Tryz.func63 ?_;simp only [go_sem,hra,halt,hrc,hclt,q2,beq_self_eq_true]));((with_reducible and_intros)<;>try exact sd))
    refine ret _ _ ?_
    simp [fnd,hy]
  | false =>
   have q2:=lk row xb.toNat
   have q4:=lk vs a
   have q5:=lk ar a
   rcases q2 with q2 | ⟨z2,q2⟩<;>rcases q4 with q4 | ⟨z4,q4⟩<;>rcases q5 with q5 | ⟨z5,q5⟩
   all_goals
    refine dcZ Tryz.func63 ?_
    simp only [go_sem,hra,halt,hrc,hclt,q2,q4,q5]
    iterate 8 ((try (refine drvZ Tryz.func63 ?_;simp only [go_sem,hra,halt,hrc,hclt,q2,q4,q5,beq_self_eq_true]));((with_reducible and_intros)<;>try exact sd))
    refine XK.gskip 10 true (DB false) ?_ (hbT ())
    iterate 4 ((try (refine drvZ Tryz.func63 ?_;simp only [go_sem,hra,halt,hrc,hclt,q2,q4,q5,beq_self_eq_true]));((with_reducible and_intros)<;>try exact sd))
    refine XK.gskip 31 true (DB false) ?_ (hbT ())
    iterate 4 ((try (refine drvZ Tryz.func63 ?_;simp only [go_sem,hra,halt,hrc,hclt,q2,q4,q5,beq_self_eq_true]));((with_reducible and_intros)<;>try exact sd))
    refine ret _ _ ?_
    simp [fnd,hy]
 by_cases k5:op=5
 ·subst k5
  have oc:=oc (by omega)
  have ob:=ob (by omega)
  have o5:=o5 rfl
  obtain ⟨a,rfl⟩:∃ k:Nat,xa=k:=⟨xa.toNat,by omega⟩
  have halt:a<ar.length:=by have:=(o5).2;rwa [Int.toNat_natCast] at this
  obtain ⟨b,rfl⟩:∃ k:Nat,xb=k:=⟨xb.toNat,by omega⟩
  have hblt:b<14:=by have:=(ob).2;rwa [Int.toNat_natCast] at this
  obtain ⟨c,rfl⟩:∃ k:Nat,xc=k:=⟨xc.toNat,by omega⟩
  have hclt:c<14:=by have:=(oc).2;rwa [Int.toNat_natCast] at this
  have hrb:=hrow b hblt
  have hrc:=hrow c hclt
  obtain ⟨q,hq,hqe,hqs⟩:=hlab2 a halt
  have hls:=labelSecretI q hq
  rw [hqs] at hls
  generalize hy:bAt row b=y at *
  generalize hw:bAt row c=w at *
  generalize hz:sAt ar a=z at *
  cases y with
  | true =>
   have q1:=lk row a
   rcases q1 with q1 | ⟨z1,q1⟩
   all_goals
    refine dcZ Tryz.func63 ?_
    simp only [go_sem,hrb,hrc,hblt,hclt,hqe,halt,q1]
    iterate 8 ((try (refine drvZ Tryz.func63 ?_;simp only [go_sem,hrb,hrc,hblt,hclt,hqe,halt,q1,beq_self_eq_true]));((with_reducible and_intros)<;>try exact sd))
    refine ret _ _ ?_
    simp [fnd,hdC,hy,hw,hz]
  | false =>
   cases w with
   | true =>
    cases z with
    | true =>
     have q1:=lk row a
     have q4:=lk vs a
     rcases q1 with q1 | ⟨z1,q1⟩<;>rcases q4 with q4 | ⟨z4,q4⟩
     all_goals
      refine dcZ Tryz.func63 ?_
      simp only [go_sem,hrb,hrc,hblt,hclt,hqe,halt,q1,q4]
      iterate 8 ((try (refine drvZ Tryz.func63 ?_;simp only [go_sem,hrb,hrc,hblt,hclt,hqe,halt,q1,q4,beq_self_eq_true]));((with_reducible and_intros)<;>try exact sd))
      refine XK.gskip 10 true (DB false) ?_ (hbT ())
      iterate 4 ((try (refine drvZ Tryz.func63 ?_;simp only [go_sem,hrb,hrc,hblt,hclt,hqe,halt,q1,q4,beq_self_eq_true]));((with_reducible and_intros)<;>try exact sd))
      iterate 3 ((try (refine drvZ Tryz.func63 ?_;simp only [go_sem,hrb,hrc,hblt,hclt,hqe,halt,q1,q4,beq_self_eq_true]));((with_reducible and_intros)<;>try exact sd);(try first | refine XK.p hls ok24 ?_ | refine XK.gp hls ok24 ?_))
      refine ret _ _ ?_
      simp [fnd,hdC,hy,hw,hz]
    | false =>
     have q1:=lk row a
     have q4:=lk vs a
     rcases q1 with q1 | ⟨z1,q1⟩<;>rcases q4 with q4 | ⟨z4,q4⟩
     all_goals
      refine dcZ Tryz.func63 ?_
      simp only [go_sem,hrb,hrc,hblt,hclt,hqe,halt,q1,q4]
      iterate 8 ((try (refine drvZ Tryz.func63 ?_;simp only [go_sem,hrb,hrc,hblt,hclt,hqe,halt,q1,q4,beq_self_eq_true]));((with_reducible and_intros)<;>try exact sd))
      refine XK.gskip 10 true (DB false) ?_ (hbT ())
      iterate 4 ((try (refine drvZ Tryz.func63 ?_;simp only [go_sem,hrb,hrc,hblt,hclt,hqe,halt,q1,q4,beq_self_eq_true]));((with_reducible and_intros)<;>try exact sd))
      iterate 3 ((try (refine drvZ Tryz.func63 ?_;simp only [go_sem,hrb,hrc,hblt,hclt,hqe,halt,q1,q4,beq_self_eq_true]));((with_reducible and_intros)<;>try exact sd);(try first | refine XK.p hls ok24 ?_ | refine XK.gp hls ok24 ?_))
      refine ret _ _ ?_
      simp [fnd,hdC,hy,hw,hz]
   | false =>
    have q1:=lk row a
    have q4:=lk vs a
    rcases q1 with q1 | ⟨z1,q1⟩<;>rcases q4 with q4 | ⟨z4,q4⟩
    all_goals
     refine dcZ Tryz.func63 ?_
     simp only [go_sem,hrb,hrc,hblt,hclt,hqe,halt,q1,q4]
     iterate 8 ((try (refine drvZ Tryz.func63 ?_;simp only [go_sem,hrb,hrc,hblt,hclt,hqe,halt,q1,q4,beq_self_eq_true]));((with_reducible and_intros)<;>try exact sd))
     refine XK.gskip 10 true (DB false) ?_ (hbT ())
     iterate 4 ((try (refine drvZ Tryz.func63 ?_;simp only [go_sem,hrb,hrc,hblt,hclt,hqe,halt,q1,q4,beq_self_eq_true]));((with_reducible and_intros)<;>try exact sd))
     refine XK.gskip 31 true (DB false) ?_ (hbT ())
     iterate 4 ((try (refine drvZ Tryz.func63 ?_;simp only [go_sem,hrb,hrc,hblt,hclt,hqe,halt,q1,q4,beq_self_eq_true]));((with_reducible and_intros)<;>try exact sd))
     refine ret _ _ ?_
     simp [fnd,hdC,hy,hw,hz]
 by_cases k3:op=3
 ·subst k3
  have ob:=ob (by omega)
  have o3:=o3 rfl
  obtain ⟨q3,hq3⟩:=hc0
  have hrc:=hrow xc.toNat hq3
  obtain ⟨a,rfl⟩:∃ k:Nat,xa=k:=⟨xa.toNat,by omega⟩
  have halt:a<vs.length:=by have:=(o3).2;rwa [Int.toNat_natCast] at this
  obtain ⟨b,rfl⟩:∃ k:Nat,xb=k:=⟨xb.toNat,by omega⟩
  have hblt:b<14:=by have:=(ob).2;rwa [Int.toNat_natCast] at this
  have hrb:=hrow b hblt
  obtain ⟨q,hq,hqe,hqs⟩:=hlab a halt
  have hls:=labelSecretI q hq
  rw [hqs] at hls
  generalize hy:bAt row b=y at *
  generalize hz:sAt vs a=z at *
  cases y with
  | true =>
   cases z with
   | true =>
    have q1:=lk row a
    have q5:=lk ar a
    rcases q1 with q1 | ⟨z1,q1⟩<;>rcases q5 with q5 | ⟨z5,q5⟩
    all_goals
     refine dcZ Tryz.func63 ?_
     simp only [go_sem,hrb,hrc,hblt,hqe,halt,q1,q5]
     iterate 8 ((try (refine drvZ Tryz.func63 ?_;simp only [go_sem,hrb,hrc,hblt,hqe,halt,q1,q5,beq_self_eq_true]));((with_reducible and_intros)<;>try exact sd))
     iterate 3 ((try (refine drvZ Tryz.func63 ?_;simp only [go_sem,hrb,hrc,hblt,hqe,halt,q1,q5,beq_self_eq_true]));((with_reducible and_intros)<;>try exact sd);(try first | refine XK.p hls ok24 ?_ | refine XK.gp hls ok24 ?_))
     refine XK.gskip 31 true (DB false) ?_ (hbT ())
     iterate 4 ((try (refine drvZ Tryz.func63 ?_;simp only [go_sem,hrb,hrc,hblt,hqe,halt,q1,q5,beq_self_eq_true]));((with_reducible and_intros)<;>try exact sd))
     refine ret _ _ ?_
     simp [fnd,hdC,hy,hz]
   | false =>
    have q1:=lk row a
    have q5:=lk ar a
    rcases q1 with q1 | ⟨z1,q1⟩<;>rcases q5 with q5 | ⟨z5,q5⟩
    all_goals
     refine dcZ Tryz.func63 ?_
     simp only [go_sem,hrb,hrc,hblt,hqe,halt,q1,q5]
     iterate 8 ((try (refine drvZ Tryz.func63 ?_;simp only [go_sem,hrb,hrc,hblt,hqe,halt,q1,q5,beq_self_eq_true]));((with_reducible and_intros)<;>try exact sd))
     iterate 3 ((try (refine drvZ Tryz.func63 ?_;simp only [go_sem,hrb,hrc,hblt,hqe,halt,q1,q5,beq_self_eq_true]));((with_reducible and_intros)<;>try exact sd);(try first | refine XK.p hls ok24 ?_ | refine XK.gp hls ok24 ?_))
     refine XK.gskip 31 true (DB false) ?_ (hbT ())
     iterate 4 ((try (refine drvZ Tryz.func63 ?_;simp only [go_sem,hrb,hrc,hblt,hqe,halt,q1,q5,beq_self_eq_true]));((with_reducible and_intros)<;>try exact sd))
     refine ret _ _ ?_
     simp [fnd,hdC,hy,hz]
  | false =>
   have q1:=lk row a
   have q5:=lk ar a
   rcases q1 with q1 | ⟨z1,q1⟩<;>rcases q5 with q5 | ⟨z5,q5⟩
   all_goals
    refine dcZ Tryz.func63 ?_
    simp only [go_sem,hrb,hrc,hblt,hqe,halt,q1,q5]
    iterate 8 ((try (refine drvZ Tryz.func63 ?_;simp only [go_sem,hrb,hrc,hblt,hqe,halt,q1,q5,beq_self_eq_true]));((with_reducible and_intros)<;>try exact sd))
    refine XK.gskip 10 true (DB false) ?_ (hbT ())
    iterate 4 ((try (refine drvZ Tryz.func63 ?_;simp only [go_sem,hrb,hrc,hblt,hqe,halt,q1,q5,beq_self_eq_true]));((with_reducible and_intros)<;>try exact sd))
    refine XK.gskip 31 true (DB false) ?_ (hbT ())
    iterate 4 ((try (refine drvZ Tryz.func63 ?_;simp only [go_sem,hrb,hrc,hblt,hqe,halt,q1,q5,beq_self_eq_true]));((with_reducible and_intros)<;>try exact sd))
    refine ret _ _ ?_
    simp [fnd,hdC,hy,hz]
 obtain ⟨q3,hq3⟩:=hc0
 have hrc:=hrow xc.toNat hq3
 have g9:(op == 9)=false:=by simp [k9]
 have g10:(op == 10)=false:=by simp [k10]
 have g4:(op == 4)=false:=by simp [k4]
 have g5:(op == 5)=false:=by simp [k5]
 have g3:(op == 3)=false:=by simp [k3]
 have q1:=lk row xa.toNat
 have q2:=lk row xb.toNat
 have q4:=lk vs xa.toNat
 have q5:=lk ar xa.toNat
 rcases q1 with q1 | ⟨z1,q1⟩<;>rcases q2 with q2 | ⟨z2,q2⟩<;>rcases q4 with q4 | ⟨z4,q4⟩<;>rcases q5 with q5 | ⟨z5,q5⟩
 all_goals
  refine dcZ Tryz.func63 ?_
  simp only [go_sem,hrc,g9,g10,g4,g5,g3,q1,q2,q4,q5]
  iterate 8 ((try (refine drvZ Tryz.func63 ?_;simp only [go_sem,hrc,g9,g10,g4,g5,g3,q1,q2,q4,q5,beq_self_eq_true]));((with_reducible and_intros)<;>try exact sd))
  refine XK.gskip 10 true (DB false) ?_ (hbT ())
  iterate 4 ((try (refine drvZ Tryz.func63 ?_;simp only [go_sem,hrc,g9,g10,g4,g5,g3,q1,q2,q4,q5,beq_self_eq_true]));((with_reducible and_intros)<;>try exact sd))
  refine XK.gskip 31 true (DB false) ?_ (hbT ())
  iterate 4 ((try (refine drvZ Tryz.func63 ?_;simp only [go_sem,hrc,g9,g10,g4,g5,g3,q1,q2,q4,q5,beq_self_eq_true]));((with_reducible and_intros)<;>try exact sd))
  refine ret _ _ ?_
  simp [fnd,k9,k10,k4,k5,k3]
end Go.Proofs.YtoakidkcppinpaaGreat.CtD
