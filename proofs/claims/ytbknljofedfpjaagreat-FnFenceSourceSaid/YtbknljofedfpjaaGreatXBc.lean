/- Contracts of functions of the program, one behind the other, as plain data: what each call returns and which blocks it leaves. -/
import Derived.Test.YtbknljofedfpjaaGreatXFacts
import Derived.Test.YtbknljofedfpjaaGreatXAj
import Derived.Test.YtbknljofedfpjaaGreatXAk
import Derived.Test.YtbknljofedfpjaaGreatXAm
import Derived.Test.YtbknljofedfpjaaGreatXAp
import Derived.Test.YtbknljofedfpjaaGreatXAq
import Derived.Test.YtbknljofedfpjaaGreatXAr
import Derived.Test.YtbknljofedfpjaaGreatXAs
import Derived.Test.YtbknljofedfpjaaGreatXAu
import Derived.Test.YtbknljofedfpjaaGreatXAv
import Derived.Test.YtbknljofedfpjaaGreatXAw
import Derived.Test.YtbknljofedfpjaaGreatXBa
import Derived.Test.YtbknljofedfpjaaGreatXBb
import Derived.Test.YtbknljofedfpjaaGreatXAo
import Derived.Test.YtbknljofedfpjaaGreatXAi
import Derived.Test.YtbknljofedfpjaaGreatXAx
import Derived.Test.YtbknljofedfpjaaGreatXAz
import Derived.Test.YtbknljofedfpjaaGreatXAl
set_option linter.unusedVariables false
set_option linter.unusedSimpArgs false
set_option linter.unusedSectionVars false
set_option maxHeartbeats 16000000
set_option maxRecDepth 100000
namespace Go.Proofs.YtbknljofedfpjaaGreat.CtD
open Go Go.CT CtF CtR
variable [Yn]
open CtL (In Cd Mc stepM kindsOf topOf fOK inOK endOK codeOK runM atC halt pathM exF otherM isBr tgt specM)
abbrev spB (s:Mc) (T:List Ev) (cnt:Nat) (E:List Ev):List (Option (List C)):=stB s++[some [.msl 7 2 0 T.length],some (trC T),some [I64 cnt],some (trC E)]
abbrev spA (s:Mc) (T:List Ev) (cnt:Nat) (E:List Ev):List (Option (List C)):=stB s++[some [.msl 10 2 0 T.length],none,some [I64 cnt],some (trC E),some (trC T)]
theorem pathM_len (D : List In) : ∀ (w : Nat) (s : Mc), (pathM D w s).length ≤ 2 * w
 | 0,s=>by simp [pathM]
 | w+1,s=>by
  rw [pathM,List.length_append]
  have h1:=step_len (atC D s.pc) s
  split
  ·simp;omega
  ·have:=pathM_len D w (stepM (atC D s.pc) s).1
   omega
theorem specFn (c : Cd) (hc : codeOK c = true) (wrong : List Bool) (hwl : wrong.length ≤ 1000000) (s : Mc) (hs : MOK c s) (pc : Nat) (x : In) (hx : c.list[pc]? = some x) (T E : List Ev) (cnt : Nat) (hcn : cnt ≤ 1000000) (hT : T.length ≤ 1000000) (hE : E.length ≤ 100) :
 DC Tryz.prog 57 [DI .i64 pc,.c (.msl 9 2 0 E.length),.c (.ptr 6 0),.c (.eptr (cdC c)),.c (.ptr 8 0),.c (.eptr [boolsD wrong]),.c (.ptr 0 0)] (spB s T cnt E)
 (fun r h=>r = .tup []∧h=spA s (T++E++exF c.list wrong cnt x pc s) (cnt+(isBr x).toNat) E):=by
 have hmx:=mx_eq
 have hcl:=code_len hc
 have hw:=CtL.wf_of hc
 have hpl:pc<c.list.length:=(List.getElem?_eq_some_iff.1 hx).1
 have hbr:=isBrI x
 have htg:=tgtI x
 have e1:=trC_len T
 have e2:=trC_len E
 have e3:(trC E).take (E.length * 2)=trC E:=by rw [← e2,List.take_length]
 have e4:(trC T++trC E).length=(T.length+E.length) * 2:=by rw [List.length_append,e1,e2];omega
 have ret:∀ (T':List Ev) (cnt':Nat) (K n:Nat) (cs c0 c8 c9:List C) (hp:Hp),hp 0=some (some c0)→hp 1=some (some (s.regs.map I64))→hp 2=some (some (s.mem.vals.map I64))→hp 3=some (some (hdr 4 5 s.mem.arrays.length))→hp 4=some (some (blk0 s.mem.arrays))→hp 5=some (some (blk1 s.mem.arrays))→hp 6=some (some [.msl K 2 0 n])→hp 7 ≠ none→hp 8=some (some c8)→hp 9=some (some c9)→hp K=some (some cs)→10≤K →
  c0=[I64 s.pc,.msl 1 1 0 14,.msl 2 1 0 s.mem.vals.length,.msl 3 1 0 s.mem.arrays.length]→c8=[I64 (cnt':Nat)]→c9=trC E→cs=trC T'→n=T'.length→RetOb 10 (fun r h=>r = .tup []∧h=spA s T' cnt' E) (.tup []) hp:=by
  rintro T' cnt' K n cs c0 c8 c9 hp q0 q1 q2 q3 q4 q5 q6 q7 q8 q9 qk hK rfl rfl rfl rfl rfl
  refine RetOb.ofQ (fun j=>if j=10 then some K else some j) [] (.tup []) (spA s T' cnt' E) ?_ ⟨rfl,rfl⟩ (by simp [spA,stB])
  simp [spA,stB,enumL,hOf,DM,DMs,CM,CMs,HpOK,LowOK,upd,CMs_I,CMs_tr,CMs_hdr,CMs_b0,CMs_b1,q0,q1,q2,q3,q4,q5,q6,q7,q8,q9,qk]
  omega
 have hpa:=fun p hp=>pathO c hc s hs p hp
 obtain ⟨vs,ar,l⟩:=c
 simp only at hx hcl hw hpl hpa
 have hgx:(l.map inX)[pc]? = some (inX x):=by rw [List.getElem?_map,hx];rfl
 cases hb:isBr x with
 | false =>
  rw [hb] at hbr
  have hex:exF l wrong cnt x pc s=[]:=by simp [exF,hb]
  rw [show (⟨vs,ar,l⟩:Cd).list=l from rfl,hex,List.append_nil]
  simp only [Bool.toNat_false,Nat.add_zero]
  replace ret:=ret (T++E) cnt
  generalize hR:(fun (r:D) (h:List (Option (List C)))=>r=D.tup []∧h=spA s (T++E) cnt E)=R at ret ⊢
  clear hR
  obtain ⟨op,xa,xb,xc,xd⟩:=x
  unfold inX at hbr
  unfold spB stB cdC
  simp only [ints,List.cons_append,List.nil_append]
  refine dcZ Tryz.func57 ?_
  simp only [go_sem,e1,e2,e3]
  iterate 4 ((try (refine drvZ Tryz.func57 ?_;simp only [go_sem,e1,e2,e3,hx,hpl,inX,List.length_map]));((with_reducible and_intros)<;>try exact sd);(try first | refine XK.p hbr ok58 ?_ | refine XK.gp hbr ok58 ?_))
  exact ret _ _ _ _ _ _ _ rfl rfl rfl rfl rfl rfl rfl (by simp [upd,hpL]) rfl rfl rfl (by decide) rfl rfl rfl (trC_app T E).symm (by simp)
 | true =>
  rw [hb] at hbr
  have ho:=CtL.isBr_iff.1 hb
  have hat:atC l pc=x:=by simp [atC,List.getD,hx]
  obtain ⟨w1,w2⟩:=hw pc hpl
  rw [hat] at w1 w2
  obtain ⟨t0,t1⟩:=w1 (by omega)
  have hn1:=w2 (by omega) (by omega)
  have hbo:(boolsD wrong) = .isl 1 (wrong.map fun b=>[C.v (.bool b)]):=rfl
  cases hwc:wrong[cnt]? with
  | none =>
   have hcw:¬ cnt<wrong.length:=fun h=>by rw [List.getElem?_eq_getElem h] at hwc;cases hwc
   have hex:exF l wrong cnt x pc s=[]:=by simp [exF,List.getD,hwc]
   rw [show (⟨vs,ar,l⟩:Cd).list=l from rfl,hex,List.append_nil]
   simp only [Bool.toNat_true]
   replace ret:=ret (T++E) (cnt+1)
   generalize hR:(fun (r:D) (h:List (Option (List C)))=>r=D.tup []∧h=spA s (T++E) (cnt+1) E)=R at ret ⊢
   clear hR
   obtain ⟨op,xa,xb,xc,xd⟩:=x
   unfold inX at hbr
   unfold spB stB cdC
   simp only [ints,List.cons_append,List.nil_append,hbo]
   refine dcZ Tryz.func57 ?_
   simp only [go_sem,e1,e2,e3,hwc,hcw]
   iterate 7 ((try (refine drvZ Tryz.func57 ?_;simp only [go_sem,e1,e2,e3,hx,hpl,inX,List.length_map,hwc,hcw]));((with_reducible and_intros)<;>try exact sd);(try first | refine XK.p hbr ok58 ?_ | refine XK.gp hbr ok58 ?_))
   exact ret _ _ _ _ _ _ _ rfl rfl rfl rfl rfl rfl rfl (by simp [upd,hpL]) rfl rfl rfl (by decide) rfl rfl rfl (trC_app T E).symm (by simp)
  | some w =>
   have hcw:cnt<wrong.length:=(List.getElem?_eq_some_iff.1 hwc).1
   cases w with
   | false =>
    have hex:exF l wrong cnt x pc s=[]:=by simp [exF,List.getD,hwc]
    rw [show (⟨vs,ar,l⟩:Cd).list=l from rfl,hex,List.append_nil]
    simp only [Bool.toNat_true]
    replace ret:=ret (T++E) (cnt+1)
    generalize hR:(fun (r:D) (h:List (Option (List C)))=>r=D.tup []∧h=spA s (T++E) (cnt+1) E)=R at ret ⊢
    clear hR
    obtain ⟨op,xa,xb,xc,xd⟩:=x
    unfold inX at hbr
    unfold spB stB cdC
    simp only [ints,List.cons_append,List.nil_append,hbo]
    refine dcZ Tryz.func57 ?_
    simp only [go_sem,e1,e2,e3,hwc,hcw]
    iterate 7 ((try (refine drvZ Tryz.func57 ?_;simp only [go_sem,e1,e2,e3,hx,hpl,inX,List.length_map,hwc,hcw]));((with_reducible and_intros)<;>try exact sd);(try first | refine XK.p hbr ok58 ?_ | refine XK.gp hbr ok58 ?_))
    exact ret _ _ _ _ _ _ _ rfl rfl rfl rfl rfl rfl rfl (by simp [upd,hpL]) rfl rfl rfl (by decide) rfl rfl rfl (trC_app T E).symm (by simp)
   | true =>
    have hex:exF l wrong cnt x pc s=pathM l 4 (otherM x pc s):=by simp [exF,List.getD,hwc,hb]
    rw [show (⟨vs,ar,l⟩:Cd).list=l from rfl,hex]
    simp only [Bool.toNat_true]
    replace ret:=ret (T++E++pathM l 4 (otherM x pc s)) (cnt+1)
    generalize hR:(fun (r:D) (h:List (Option (List C)))=>r=D.tup []∧h=spA s (T++E++pathM l 4 (otherM x pc s)) (cnt+1) E)=R at ret ⊢
    clear hR
    have hml:=hs.mem
    by_cases hq:s.pc=pc+1
    ·have hpa:=hpa (tgt x).toNat t1
     rw [show otherM x pc s=⟨(tgt x).toNat,s.regs,s.mem⟩ by simp [otherM,hq]] at *
     obtain ⟨tt,htt⟩:∃ tt:Nat,tgt x=tt:=⟨(tgt x).toNat,by omega⟩
     rw [htt,Int.toNat_natCast] at hpa ret t1
     rw [htt] at htg
     have hQ:=pathM_len l 4 ⟨tt,s.regs,s.mem⟩
     generalize pathM l 4 ⟨tt,s.regs,s.mem⟩=Q at *
     have q1:=trC_len Q
     have q3:(trC Q).take (Q.length * 2)=trC Q:=by rw [← q1,List.take_length]
     have hq2:((s.pc:Int) == (pc:Int)+1)=true:=by simp;omega
     have hq3:((s.pc:Int)=(pc:Int)+1):=by omega
     obtain ⟨op,xa,xb,xc,xd⟩:=x
     unfold inX at hbr htg
     unfold cdC at hpa
     unfold spB stB cdC
     simp only [ints,List.cons_append,List.nil_append,hbo] at hpa ⊢
     refine dcZ Tryz.func57 ?_
     simp only [go_sem,e1,e2,e3,hwc,hcw]
     iterate 9 ((try (refine drvZ Tryz.func57 ?_;simp only [go_sem,e1,e2,e3,hx,hpl,inX,List.length_map,hwc,hcw,hq2,hq3]));((with_reducible and_intros)<;>try exact sd);(try first | refine XK.p hbr ok58 ?_ | refine XK.gp hbr ok58 ?_ | refine XK.p htg ok38 ?_ | refine XK.gp htg ok38 ?_))
     refine XK.callG [1,2,3,4,5] hpa ok59 (hhpG (by simp [HH,upd,hOf,hpL,renCs_I,renCs_hdr,renCs_b0,renCs_b1,renCs,renC,rk0])) (hbT ()) (fun d h' ⟨_,e⟩=>by subst e;simp) ?_ (fun _=>⟨by kernel_rfl,_,_,⟨rfl,rfl⟩,by simp⟩)
     rintro _ _ ⟨rfl,rfl⟩ _
     iterate 9 ((try (refine drvZ Tryz.func57 ?_;simp only [go_sem,e4,q1,q3,renCs_I,renCs_hdr,renCs_b0,renCs_b1,renCs_tr]));((with_reducible and_intros)<;>try exact sd))
     exact ret _ _ _ _ _ _ _ rfl rfl rfl rfl rfl rfl rfl (by simp [upd,hpL]) rfl rfl rfl (by decide) (by first | rfl | simp [hq]) rfl rfl (by rw [trC_app,trC_app]) (by simp [Nat.add_assoc])
    ·have hpa:=hpa (pc+1) hn1
     rw [show otherM x pc s=⟨pc+1,s.regs,s.mem⟩ by simp [otherM,hq]] at *
     have hQ:=pathM_len l 4 ⟨pc+1,s.regs,s.mem⟩
     generalize pathM l 4 ⟨pc+1,s.regs,s.mem⟩=Q at *
     have q1:=trC_len Q
     have q3:(trC Q).take (Q.length * 2)=trC Q:=by rw [← q1,List.take_length]
     have hq2:((s.pc:Int) == (pc:Int)+1)=false:=by simp;omega
     have hq3:¬ ((s.pc:Int)=(pc:Int)+1):=by omega
     obtain ⟨op,xa,xb,xc,xd⟩:=x
     unfold inX at hbr htg
     unfold cdC at hpa
     unfold spB stB cdC
     simp only [ints,List.cons_append,List.nil_append,hbo] at hpa ⊢
     refine dcZ Tryz.func57 ?_
     simp only [go_sem,e1,e2,e3,hwc,hcw]
     iterate 9 ((try (refine drvZ Tryz.func57 ?_;simp only [go_sem,e1,e2,e3,hx,hpl,inX,List.length_map,hwc,hcw,hq2,hq3]));((with_reducible and_intros)<;>try exact sd);(try first | refine XK.p hbr ok58 ?_ | refine XK.gp hbr ok58 ?_ | refine XK.p htg ok38 ?_ | refine XK.gp htg ok38 ?_))
     refine XK.callG [1,2,3,4,5] hpa ok59 (hhpG (by simp [HH,upd,hOf,hpL,renCs_I,renCs_hdr,renCs_b0,renCs_b1,renCs,renC,rk0])) (hbT ()) (fun d h' ⟨_,e⟩=>by subst e;simp) ?_ (fun _=>⟨by kernel_rfl,_,_,⟨rfl,rfl⟩,by simp⟩)
     rintro _ _ ⟨rfl,rfl⟩ _
     iterate 9 ((try (refine drvZ Tryz.func57 ?_;simp only [go_sem,e4,q1,q3,renCs_I,renCs_hdr,renCs_b0,renCs_b1,renCs_tr]));((with_reducible and_intros)<;>try exact sd))
     exact ret _ _ _ _ _ _ _ rfl rfl rfl rfl rfl rfl rfl (by simp [upd,hpL]) rfl rfl rfl (by decide) (by first | rfl | simp [hq]) rfl rfl (by rw [trC_app,trC_app]) (by simp [Nat.add_assoc])
open CtL (In Cd Mc stepM kindsOf topOf fOK inOK endOK codeOK runM atC halt pathM exF otherM isBr tgt specM)
abbrev spE (s:Mc) (T:List Ev) (cnt:Nat):List (Option (List C)):=stB s++[some [.msl 9 2 0 T.length],none,some [I64 cnt],some (trC T)]
def exS (c:Cd) (wrong:List Bool) (s0:Mc) (r:D) (h:List (Option (List C))):Prop :=
 ∃ (b:Bool) (s':Mc) (T':List Ev) (cnt:Nat),r=DB b∧h=spE s' T' cnt∧MOK c s'∧T'.length≤400000∧exQ (specM c.list wrong 20000 0 s0) b s' T'
theorem exF_len (l:List In) (wrong:List Bool) (cnt:Nat) (x:In) (pc:Nat) (s:Mc):(exF l wrong cnt x pc s).length≤8:=by
 unfold exF
 split
 ·exact pathM_len l 4 _
 ·simp
theorem isBr_nat (x:In):(isBr x).toNat≤1:=by cases isBr x<;>simp
theorem execSpec (c:Cd) (hc:codeOK c=true) (wrong:List Bool) (hwl:wrong.length≤1000000) (s0:Mc) (hs0:MOK c s0):DC Tryz.prog 56 [.agg (cdC c),.c (.ptr 0 0),.c (.clo 57 [.ptr 6 0,.eptr (cdC c),.ptr 8 0,.eptr [boolsD wrong],.ptr 0 0])] (stB s0++[some [.msl 7 2 0 0],some [],some [I64 0]]) (exS c wrong s0):=by
 have hmx:=mx_eq
 have hcl:=code_len hc
 have ret:∀ (b:Bool) (s':Mc) (T':List Ev) (cnt K n:Nat) (cs c0 c1 c2 c3 c4 c5 c8:List C) (hp:Hp),hp 0=some (some c0)→hp 1=some (some c1)→hp 2=some (some c2)→hp 3=some (some c3)→hp 4=some (some c4)→hp 5=some (some c5)→hp 6=some (some [.msl K 2 0 n])→hp 7 ≠ none→hp 8=some (some c8)→hp K=some (some cs)→9≤K →
  c0=[I64 s'.pc,.msl 1 1 0 14,.msl 2 1 0 s'.mem.vals.length,.msl 3 1 0 s'.mem.arrays.length]→c1=s'.regs.map I64→c2=s'.mem.vals.map I64→c3=hdr 4 5 s'.mem.arrays.length→c4=blk0 s'.mem.arrays→c5=blk1 s'.mem.arrays→c8=[I64 cnt]→cs=trC T'→n=T'.length→MOK c s'→T'.length≤400000→exQ (specM c.list wrong 20000 0 s0) b s' T'→RetOb 9 (exS c wrong s0) (DB b) hp:=by
  rintro b s' T' cnt K n cs c0 c1 c2 c3 c4 c5 c8 hp q0 q1 q2 q3 q4 q5 q6 q7 q8 qk hK rfl rfl rfl rfl rfl rfl rfl rfl rfl hm hT hq
  refine RetOb.ofQ (fun j=>if j=9 then some K else some j) [] (DB b) (spE s' T' cnt) ?_ ⟨b,s',T',cnt,rfl,rfl,hm,hT,hq⟩ (by simp [spE,stB])
  simp [spE,stB,enumL,hOf,DM,DMs,CM,CMs,HpOK,LowOK,upd,CMs_I,CMs_tr,CMs_hdr,CMs_b0,CMs_b1,q0,q1,q2,q3,q4,q5,q6,q7,q8,qk]
  omega
 generalize hR:exS c wrong s0=R at ret ⊢
 clear hR
 have hstep:=fun s x hs hx h=>stepI c s x (by omega) hs hx h
 have hfn:=fun s hs pc x hx T E cnt hcn hT hE=>specFn c hc wrong hwl s hs pc x hx T E cnt hcn hT hE
 obtain ⟨vs,ar,l⟩:=c
 simp only at hcl ret hfn
 unfold stB cdC
 simp only [ints,List.cons_append,List.nil_append]
 obtain ⟨wb,hwb⟩:∃ wb,boolsD wrong=wb:=⟨_,rfl⟩
 have hkw:kf wb=true:=by rw [← hwb];rfl
 rw [hwb]
 simp only [hwb] at hfn
 refine dcZ Tryz.func56 ?_
 simp only [go_sem]
 iterate 2 ((try (refine drvZ Tryz.func56 ?_;simp only [go_sem]));((with_reducible and_intros)<;>try exact sd))
 refine Go.loopQ (fun x : Nat × Mc × List Ev × Nat => [(1, .c (.ptr 0 0)), (2, .c (.clo 57 [.ptr 6 0, .eptr [isI vs, isI ar, .isl 5 (l.map inX)], .ptr 8 0, .eptr [wb], .ptr 0 0])), (3, .c (.ptr 9 0)), (8, DI .i64 x.1)])
  (fun x=>[(0,some [I64 x.2.1.pc,.msl 1 1 0 14,.msl 2 1 0 x.2.1.mem.vals.length,.msl 3 1 0 x.2.1.mem.arrays.length]),(1,some (x.2.1.regs.map I64)),(2,some (x.2.1.mem.vals.map I64)),(3,some (hdr 4 5 x.2.1.mem.arrays.length)),(4,some (blk0 x.2.1.mem.arrays)),(5,some (blk1 x.2.1.mem.arrays)),(6,some [.msl 20 2 0 x.2.2.1.length]),(7,none),(8,some [I64 (x.2.2.2:Nat)]),(9,some [isI vs,isI ar,.isl 5 (l.map inX)]),(20,some (trC x.2.2.1))])
  8192 (fun x=>x.1≤20000∧MOK ⟨vs,ar,l⟩ x.2.1∧x.2.2.1.length≤10 * x.1∧x.2.2.2≤x.1∧specM l wrong 20000 0 s0=(specM l wrong (20000 - x.1) x.2.2.2 x.2.1).map fun q=>(q.1,x.2.2.1++q.2)) (fun x=>20000 - x.1) ?_ (0,s0,[],0) (fun j=>if j=20 then some 7 else some j) [] _ ⟨by simp,hs0,by simp,by simp,by simp⟩ ?_
 ·rintro ⟨i,s,T,cnt⟩ ⟨hi,hs,hT,hcn,hrun⟩ again
  simp only at hi hs hT hcn hrun again ⊢
  rcases Nat.lt_or_ge i 20000 with hlt | hge
  ·obtain ⟨x,hx⟩:∃ x,l[s.pc]? = some x:=⟨l[s.pc]'hs.pc,by simp⟩
   have hxi:inOK vs.length ar.length l.length x=true:=by
    have hc':=hc
    simp only [codeOK,Bool.and_eq_true,List.all_eq_true] at hc'
    exact hc'.1.2 x (List.mem_of_getElem? hx)
   have hst:=hstep s x hs hx hxi
   have hso:=step_ok hc hs hx
   have hel:=step_len x s
   have hat:atC l s.pc=x:=by simp [atC,List.getD,hx]
   have hlt':(i:Int)<20000:=by omega
   have hpl:s.pc<l.length:=hs.pc
   have hrn:specM l wrong (20000 - i) cnt s=if x.op=13 then some ((stepM x s).1.mem,(stepM x s).2) else (specM l wrong (20000 - (i+1)) (cnt+(isBr x).toNat) (stepM x s).1).map fun q=>(q.1,(stepM x s).2++exF l wrong cnt x s.pc (stepM x s).1++q.2):=by
    rw [show 20000 - i=(20000 - (i+1))+1 by omega,CtL.specM,hat]
   unfold stepR at hst
   generalize stepM x s=y at *
   obtain ⟨s2,E⟩:=y
   simp only at hst hso hel hrn
   have hrf:=hfn s2 hso s.pc x hx T E cnt (by omega) (by omega) (by omega)
   have hXl:=exF_len l wrong cnt x s.pc s2
   have hbn:=isBr_nat x
   have hb13:x.op=13→isBr x=false∧exF l wrong cnt x s.pc s2=[]:=fun h=>by simp [isBr,exF,h]
   generalize exF l wrong cnt x s.pc s2=X at *
   generalize isBr x=br at *
   unfold stB cdC at hst
   unfold spB spA stB cdC at hrf
   obtain ⟨op,xa,xb,xc,xd⟩:=x
   simp only [ints,List.cons_append,List.nil_append] at hrn hst hrf hb13
   refine drvL Tryz.func56 ?_
   simp only [go_sem,hlt']
   iterate 3 ((try (refine drvZ Tryz.func56 ?_;simp only [go_sem,hlt']));((with_reducible and_intros)<;>try exact sd))
   refine XK.callG [0,1,2,3,4,5] hst ok107 (hhpG (by simp [HH,upd,hOf,hpL,renCs_I,renCs_hdr,renCs_b0,renCs_b1,renCs,renC,rk0])) (hbT ()) (fun d h' ⟨_,e⟩=>by subst e;simp [stB]) ?_
   rintro _ _ ⟨rfl,rfl⟩ _
   ((try (refine drvZ Tryz.func56 ?_;simp only [go_sem,stB,renCs_I,renCs_hdr,renCs_b0,renCs_b1,renCs_tr]));((with_reducible and_intros)<;>try exact sd))
   refine XK.callG [0,1,2,3,4,5,6,20,8,8832] hrf ok57 (hhpG (by simp [HH,upd,hOf,hpL,appUp,upsFrom,rkey,renCs_I,renCs_hdr,renCs_b0,renCs_b1,renCs_tr,renCs,renC,rk0])) (hbT ()) (fun d h' ⟨_,e⟩=>by subst e;simp) ?_
   rintro _ _ ⟨rfl,rfl⟩ _
   have hgx:(l.map inX)[s.pc]? = some [I64 op,I64 xa,I64 xb,I64 xc,I64 xd]:=by rw [List.getElem?_map,hx];rfl
   by_cases h13:op=13
   ·subst h13
    obtain ⟨rfl,rfl⟩:=hb13 rfl
    iterate 3 ((try (refine drvZ Tryz.func56 ?_;simp only [go_sem,hgx,hpl,renCs_tr,renCs_I,renCs_hdr,renCs_b0,renCs_b1,List.length_map]));((with_reducible and_intros)<;>try exact sd))
    rw [if_pos rfl] at hrn
    refine ret true s2 (T++E) (cnt+0) _ _ _ _ _ _ _ _ _ _ _ rfl rfl rfl rfl rfl rfl rfl (by simp [upd,hOf,appUp,upsFrom,rkey]) rfl rfl (by decide) rfl rfl rfl rfl rfl rfl (by simp) rfl rfl hso (by simp only [List.length_append];omega) ?_
    rw [hrun,hrn]
    exact ⟨rfl,rfl,rfl⟩
   ·have g13:(op == 13)=false:=by simp [h13]
    iterate 3 ((try (refine drvZ Tryz.func56 ?_;simp only [go_sem,hgx,hpl,renCs_tr,renCs_I,renCs_hdr,renCs_b0,renCs_b1,List.length_map,g13,h13]));((with_reducible and_intros)<;>try exact sd))
    rw [if_neg h13] at hrn
    refine again (i+1,s2,T++E++X,cnt+br.toNat) (fun j=>if j=20 then some 8896 else some j) [] _ ⟨hlt,hso,by simp only [List.length_append];omega,by simp only;omega,?_⟩ (by simp only;omega) ?_
    ·rw [hrun,hrn,Option.map_map]
     congr 1
     funext q
     simp
    ·simp only [go_sem,TmOK,DM,DMs,CM,CMs,forall_eq,exists_eq_left,Mq,HpOK,LowOK]
     simp [upd,hOf,hpL,CMs_I,CMs_tr,CMs_hdr,CMs_b0,CMs_b1,CM]
  ·obtain rfl:i=20000:=by omega
   have hz:(((20000:Nat):Int)<20000)=False:=eq_false (by decide)
   refine drvL Tryz.func56 ?_
   simp only [go_sem,hz]
   iterate 3 ((try (refine drvZ Tryz.func56 ?_;simp only [go_sem,hz]));((with_reducible and_intros)<;>try exact sd))
   refine ret false s T cnt _ _ _ _ _ _ _ _ _ _ _ rfl rfl rfl rfl rfl rfl rfl (by simp [upd,hOf]) rfl rfl (by decide) rfl rfl rfl rfl rfl rfl rfl rfl rfl hs (by omega) ?_
   rw [hrun,Nat.sub_self,CtL.specM]
   exact rfl
 ·simp only [go_sem,TmOK,DM,DMs,CM,CMs,forall_eq,exists_eq_left,Mq,HpOK,LowOK]
  simp [upd,hOf,hpL,CMs_I,CMs_tr,CMs_hdr,CMs_b0,CMs_b1,CM,trC,CMs]
def specC (c:Cd) (m:Mm) (wrong:List Bool):Mm × List Ev × Bool :=
 if codeOK c && memOK c.vars c.arrays m then (match specM c.list wrong 20000 0 ⟨0,List.replicate 14 0,m⟩ with | some q=>(q.1,q.2,true) | none=>(⟨[],[]⟩,[],false)) else (⟨[],[]⟩,[],false)
theorem specRunI (c:Cd) (m:Mm) (wrong:List Bool) (hwl:wrong.length≤1000000) (hc:codeOK c=true):DC Tryz.prog 14 [.agg (cdC c),.agg m.cells,.c (boolsD wrong)] [] (fun r h=>r = .tup [.agg (specC c m wrong).1.cells,.c (trD (specC c m wrong).2.1),DB (specC c m wrong).2.2]∧h=[]):=by
 have hmx:=mx_eq
 have hcl:=code_len hc
 have hst:=startI c m hc
 cases hm:memOK c.vars c.arrays m with
 | true =>
  have hml:=memOK_len hm
  rw [show stmR c m=fun r h=>r = .tup [.agg [I64 0,.msl 0 1 0 14,.msl 1 1 0 m.vals.length,.msl 2 1 0 m.arrays.length],DB true]∧h=mcB 0 (List.replicate 14 0) m by funext r h;simp [stmR,hm]] at hst
  have hmf:MemFits (hdC c) m:=by
   have g:=hm
   simp only [memOK,arrOK,vals01,Bool.and_eq_true,decide_eq_true_eq,List.all_eq_true] at g
   obtain ⟨⟨⟨g1,g2⟩,g3⟩,g4⟩:=g
   exact ⟨by simp only [hdC];omega,by simp only [hdC];omega,by simp only [hdC];omega,by simp only [hdC];omega,g3,fun a ha=>⟨by have:=(g4 a ha).1;omega,(g4 a ha).2⟩⟩
  have hM:MOK c ⟨0,List.replicate 14 0,m⟩:=⟨by simp;omega,by simp,by simp,hmf⟩
  have hex:=execSpec c hc wrong hwl _ hM
  have hrf:specC c m wrong=match specM c.list wrong 20000 0 ⟨0,List.replicate 14 0,m⟩ with | some q=>(q.1,q.2,true) | none=>(⟨[],[]⟩,[],false):=by unfold specC;rw [hc,hm];rfl
  generalize hZ:List.replicate 14 (0:Int)=Z at *
  generalize hR:(fun (r:D) (h:List (Option (List C)))=>r = .tup [.agg (specC c m wrong).1.cells,.c (trD (specC c m wrong).2.1),DB (specC c m wrong).2.2]∧h=[])=R
  obtain ⟨wb,hwb⟩:∃ wb,boolsD wrong=wb:=⟨_,rfl⟩
  have hkw:kf wb=true:=by rw [← hwb];rfl
  rw [hwb] at hex ⊢
  obtain ⟨vs,ar,l⟩:=c
  obtain ⟨va,arr⟩:=m
  unfold stB at hex
  simp only [cdC,ints] at hst hex ⊢
  refine dcZ Tryz.func14 ?_
  simp only [go_sem,Mm.cells]
  iterate 3 ((try (refine drvZ Tryz.func14 ?_;simp only [go_sem,Mm.cells]));((with_reducible and_intros)<;>try exact sd))
  refine XK.callG [] hst ok55 (fun i' x h=>by simp at h) (hbT ()) (fun d h' ⟨_,e⟩=>by subst e;simp) ?_
  rintro _ _ ⟨rfl,rfl⟩ _
  iterate 6 ((try (refine drvZ Tryz.func14 ?_;simp only [go_sem,Mm.cells,renCs_I,renCs_hdr,renCs_b0,renCs_b1]));((with_reducible and_intros)<;>try exact sd))
  refine XK.subQ (r := fun j => if j = 0 then some 768 else if j = 1 then some 512 else if j = 2 then some 513 else if j = 3 then some 514 else if j = 4 then some 515 else if j = 5 then some 516 else if j = 6 then some 1088 else if j = 8 then some 1152 else if j = 9 then some 192 else none) (fz := [0, 128])
   (tl:=[(6,.c (.ptr 9 0)),(9,.c (.ptr 0 0)),(11,.c (.ptr 6 0)),(22,.agg [isI vs,isI ar,.isl 5 (l.map inX)]),(23,.c (.clo 57 [.ptr 6 0,.eptr [isI vs,isI ar,.isl 5 (l.map inX)],.ptr 8 0,.eptr [wb],.ptr 0 0]))])
   (hl:=[(0,some [I64 0,.msl 1 1 0 14,.msl 2 1 0 va.length,.msl 3 1 0 arr.length]),(1,some (Z.map I64)),(2,some (va.map I64)),(3,some (hdr 4 5 arr.length)),(4,some (blk0 arr)),(5,some (blk1 arr)),(6,some [.msl 7 2 0 0]),(7,some []),(8,some [I64 0]),(9,some [.v (.slice none 0 0),.v (.slice none 0 0)])]) ?_ ?_
  ·simp [Mq,TmOK,DM,DMs,CM,CMs,HpOK,LowOK,hOf,upd,CMs_I,CMs_hdr,CMs_b0,CMs_b1,isI,kf,inX]
   exact hkw
  refine XK.callG [0,1,2,3,4,5,6,7,8] hex ok56 (hhpG (by simp [HH,upd,hOf,hpL,renCs_I,renCs_hdr,renCs_b0,renCs_b1,renCs,renC,rk0])) (hbT ()) (fun d h' ⟨_,_,_,_,_,e,_⟩=>by subst e;simp [stB]) ?_
  rintro _ _ ⟨b,s',T',cnt,rfl,rfl,hMs,hT,hq⟩ _
  have hrf:(b=true∧specC ⟨vs,ar,l⟩ ⟨va,arr⟩ wrong=(s'.mem,T',true))∨(b=false∧specC ⟨vs,ar,l⟩ ⟨va,arr⟩ wrong=(⟨[],[]⟩,[],false)):=by
   rw [hrf]
   unfold exQ at hq
   revert hq
   show (match specM l wrong 20000 0 ⟨0,Z,⟨va,arr⟩⟩ with | some q=>b=true∧s'.mem=q.1∧T'=q.2 | none=>b=false)→(b=true∧(match specM l wrong 20000 0 ⟨0,Z,⟨va,arr⟩⟩ with | some q=>(q.1,q.2,true) | none=>(⟨[],[]⟩,[],false))=(s'.mem,T',true))∨(b=false∧(match specM l wrong 20000 0 ⟨0,Z,⟨va,arr⟩⟩ with | some q=>(q.1,q.2,true) | none=>(⟨[],[]⟩,[],false))=(⟨[],[]⟩,[],false))
   generalize specM l wrong 20000 0 ⟨0,Z,⟨va,arr⟩⟩=o
   cases o with
   | none=>exact fun h => .inr ⟨h,rfl⟩
   | some q=>exact fun ⟨q1,q2,q3⟩ => .inl ⟨q1,by rw [q2,q3]⟩
  cases b with
  | true =>
   replace hrf:=hrf.elim And.right fun h=>absurd h.1 (by simp)
   have hl:=hMs.mem
   iterate 6 ((try (refine drvZ Tryz.func14 ?_;simp only [go_sem,spE,stB,renCs_I,renCs_hdr,renCs_b0,renCs_b1,renCs_tr]));((with_reducible and_intros)<;>try exact sd))
   rw [hl.nv,hl.na]
   refine RetOb.run hl ?_ rfl rfl rfl rfl rfl rfl rfl (by decide)
   subst hR
   rw [hrf]
   exact ⟨rfl,rfl⟩
  | false =>
   replace hrf:=hrf.elim (fun h=>absurd h.1 (by simp)) And.right
   iterate 6 ((try (refine drvZ Tryz.func14 ?_;simp only [go_sem,spE,stB,renCs_I,renCs_hdr,renCs_b0,renCs_b1,renCs_tr]));((with_reducible and_intros)<;>try exact sd))
   refine RetOb.noRun ?_ (.inl rfl)
   subst hR
   rw [hrf]
   exact ⟨rfl,rfl⟩
 | false =>
  rw [show stmR c m=fun r h=>r = .tup [.agg [I64 0,.v (.slice none 0 0),.v (.slice none 0 0),.v (.slice none 0 0)],DB false]∧h=[] by funext r h;simp [stmR,hm]] at hst
  have hrf:specC c m wrong=(⟨[],[]⟩,[],false):=by simp [specC,hm]
  generalize hR:(fun (r:D) (h:List (Option (List C)))=>r = .tup [.agg (specC c m wrong).1.cells,.c (trD (specC c m wrong).2.1),DB (specC c m wrong).2.2]∧h=[])=R
  obtain ⟨wb,hwb⟩:∃ wb,boolsD wrong=wb:=⟨_,rfl⟩
  rw [hwb]
  obtain ⟨vs,ar,l⟩:=c
  obtain ⟨va,arr⟩:=m
  simp only [cdC,ints] at hst ⊢
  refine dcZ Tryz.func14 ?_
  simp only [go_sem,Mm.cells]
  iterate 6 ((try (refine drvZ Tryz.func14 ?_;simp only [go_sem,Mm.cells]));((with_reducible and_intros)<;>try exact sd);(try first | refine XK.p hst ok55 ?_ | refine XK.gp hst ok55 ?_))
  refine RetOb.noRun ?_ (.inl rfl)
  subst hR
  rw [hrf]
  exact ⟨rfl,rfl⟩
open CtL (In Cd)
def wrR (bs:List Int) (n:Nat) (r:D) (h:List (Option (List C))):Prop:=∃ ws:List Bool,r = .c (boolsD ws)∧ws.length≤8∧∃ n':Nat,n≤n'∧n'≤n+10∧h=[some (rdr bs n')]
theorem l11WrongL (b2:List Int) (n0:Nat) (hb':Fits .u8 b2) (hl':b2.length≤2000) (hn0:n0≤10000000):DC Tryz.prog 51 [.c (.ptr 0 0)] [some (rdr b2 n0)] (wrR b2 n0):=by
 have hmx:=mx_eq
 generalize hR:wrR b2 n0=R
 refine dcZ Tryz.func51 ?_
 simp only [go_sem]
 iterate 3 ((try (refine drvZ Tryz.func51 ?_;simp only [go_sem]));((with_reducible and_intros)<;>try exact sd))
 refine XK.callG [0,257] (numO b2 n0 [3,5,2,1,0,8] hb' hl' (by omega) (by decide) (by decide)) ok73 (hhp2 (by simp [upd,renCs_rdr,hpL]) (by simp [upd,renCs,renC])) (hbT ()) (fun d h' ⟨_,_,_,e⟩=>by subst e;simp) ?_
 rintro _ _ ⟨v,rfl,hv,rfl⟩ _
 obtain ⟨c,rfl,hc8⟩:∃ c:Nat,v=c∧c≤8:=⟨v.toNat,by simp at hv;omega,by simp at hv;omega⟩
 iterate 2 ((try (refine drvZ Tryz.func51 ?_;simp only [go_sem,renCs_rdr]));((with_reducible and_intros)<;>try exact sd))
 refine Go.loopQ (fun x : Nat × Nat × List Bool => [(2, .c (.v (.slice none 0 0))), (0, .c (.ptr 0 0)), (3, .c (.msl 67 1 0 x.2.2.length)), (4, DI .i64 x.1)])
  (fun x=>[(0,some (rdr b2 x.2.1)),(67,some (boolsC x.2.2))]) 4096
  (fun x=>x.2.2.length+x.1=c∧n0+1≤x.2.1∧x.2.1≤n0+1+x.2.2.length) (fun x=>x.1) ?_ (c,n0+1,[]) (fun j=>if j=67 then some 65 else some j) [] _ ⟨by simp,by simp,by simp⟩ ?_
 ·rintro ⟨i,n,ws⟩ ⟨hi,hn,hn2⟩ again
  simp only at hi hn hn2
  have hbl:=boolsC_len ws
  cases i with
  | succ i =>
   have hpos:((0:Int)<((i:Int)+1))=True:=eq_true (by omega)
   have hpk:=pick b2 n 2 hb' hl' (by omega) (by simp only [InK];omega)
   refine drvL Tryz.func51 ?_
   simp only [go_sem,hpos]
   ((try (refine drvZ Tryz.func51 ?_;simp only [go_sem,hpos]));((with_reducible and_intros)<;>try exact sd))
   refine XK.callG [0] hpk ok71 (hhp_one (by simp [hOf,upd,renCs_rdr])) (hbT ()) (fun d h' ⟨v,_,_,e⟩=>by subst e;simp) ?_
   rintro _ _ ⟨v,rfl,hpv,rfl⟩ _
   by_cases hv:v=0
   ·subst hv
    iterate 3 ((try (refine drvZ Tryz.func51 ?_;simp only [go_sem,hpos,renCs_rdr,hbl]));((with_reducible and_intros)<;>try exact sd))
    refine again (i,n+1,ws++[true]) (fun j=>if j=67 then some 4544 else some j) [] _ ⟨by simp;omega,by simp only;omega,by simp;omega⟩ (by simp) ?_
    simp only [go_sem,TmOK,DM,DMs,CM,CMs,forall_eq,exists_eq_left,Mq,HpOK,LowOK,boolsC_snoc,List.length_append]
    simp
    first | exact ⟨CMs.kf (rdr_kf _ _),CMs.kf (kf_app (boolsC_kf _) (by simp [kf]))⟩ | exact ⟨CMs.kf (kf_app (boolsC_kf _) (by simp [kf])),CMs.kf (rdr_kf _ _)⟩
   ·have e1:(v == 0)=false:=by simp [hv]
    iterate 3 ((try (refine drvZ Tryz.func51 ?_;simp only [go_sem,hpos,renCs_rdr,e1,hv,hbl]));((with_reducible and_intros)<;>try exact sd))
    refine again (i,n+1,ws++[false]) (fun j=>if j=67 then some 4544 else some j) [] _ ⟨by simp;omega,by simp only;omega,by simp;omega⟩ (by simp) ?_
    simp only [go_sem,TmOK,DM,DMs,CM,CMs,forall_eq,exists_eq_left,Mq,HpOK,LowOK,boolsC_snoc,List.length_append]
    simp
    first | exact ⟨CMs.kf (rdr_kf _ _),CMs.kf (kf_app (boolsC_kf _) (by simp [kf]))⟩ | exact ⟨CMs.kf (kf_app (boolsC_kf _) (by simp [kf])),CMs.kf (rdr_kf _ _)⟩
  | zero =>
   have hz:((0:Int)<0)=False:=eq_false (by omega)
   refine drvL Tryz.func51 ?_
   simp only [go_sem,hz]
   iterate 3 ((try (refine drvZ Tryz.func51 ?_;simp only [go_sem,hz]));((with_reducible and_intros)<;>try exact sd))
   refine RetOb.ofQ (fun j=>if j=0 then some 0 else none) [67] (.c (boolsD ws)) [some (rdr b2 n)] ?_ (by rw [← hR];exact ⟨ws,rfl,by omega,n,by omega,by omega,rfl⟩) (by simp)
   have e4:∀ {hT hS:Hp} {r:Nat→Option Nat} {fz:List Nat},CMs hT r hS fz (rdr b2 n) (rdr b2 n)=True:=eq_true (CMs.kf (rdr_kf _ _))
   simp [enumL,DM,DMs,CM,CMs,HpOK,LowOK,hOf,upd,boolsD,kf,e4]
   exact ⟨(jflat ws).symm,fun x hx=>by rcases hx with ⟨_,rfl⟩ | ⟨_,rfl⟩<;>rfl,fun x hx c hc=>by rcases hx with ⟨_,rfl⟩ | ⟨_,rfl⟩<;>(rw [List.mem_singleton.1 hc])⟩
 ·simp only [go_sem,TmOK,DM,DMs,CM,CMs,forall_eq,exists_eq_left,Mq,HpOK,LowOK]
  simp [boolsC,CMs]
  exact CMs.kf (rdr_kf _ _)
def dsrR (r:D) (h:List (Option (List C))):Prop:=∃ (c:Cd) (a:Mm) (ws:List Bool),r = .tup [.agg (cdC c),.agg a.cells,.c (boolsD ws)]∧ws.length≤8∧h=[]
theorem drawSpecRun (bs:List Int) (hb:Fits .u8 bs) (hl:bs.length≤mx):DC Tryz.prog 12 [bytesD bs] [] dsrR:=by
 have hmx:=mx_eq
 have hop:=l17Open bs hl
 have hb':=fits_take hb 2000
 have hl':(bs.take 2000).length≤2000:=by rw [List.length_take];omega
 generalize hR:dsrR=R
 generalize hbs:bs.take 2000=b2 at *
 unfold bytesD
 unfold bytesD at hop
 refine dcZ Tryz.func12 ?_
 simp only [go_sem]
 ((try (refine drvZ Tryz.func12 ?_;simp only [go_sem]));((with_reducible and_intros)<;>try exact sd))
 refine XK.callG [] hop ok28 (fun i' x h=>by simp at h) (hbT ()) (fun d h' ⟨_,e⟩=>by subst e;simp) ?_
 rintro _ _ ⟨rfl,rfl⟩ _
 iterate 2 ((try (refine drvZ Tryz.func12 ?_;simp only [go_sem,renCs_rdr]));((with_reducible and_intros)<;>try exact sd))
 have hju:=l8JumpsL b2 0 hb' hl' (by omega)
 refine XK.callG [256] hju ok48 (hhp_one (by simp [upd,renCs_rdr])) (hbT ()) (fun d h' ⟨_,_,_,_,_,_,_,_,e⟩=>by subst e;simp) ?_
 rintro _ _ ⟨c0,rfl,q1,q2,q3,n1,hn1,hn2,rfl⟩ _
 have hmu:=l6Mutate b2 n1 c0 hb' hl' (by omega) q1 q2 q3
 obtain ⟨vs0,ar0,l0⟩:=c0
 unfold cdC at hmu
 simp only [cdC] at hmu ⊢
 iterate 2 ((try (refine drvZ Tryz.func12 ?_;simp only [go_sem,renCs_rdr]));((with_reducible and_intros)<;>try exact sd))
 refine XK.callG [256] hmu ok47 (hhp_one (by simp [upd,renCs_rdr])) (hbT ()) (fun d h' ⟨_,_,_,_,_,_,_,_,e⟩=>by subst e;simp) ?_
 rintro _ _ ⟨c,rfl,p1,p2,p3,n2,hn3,hn4,rfl⟩ _
 have hhd:=heads6 c
 have hme:=fun n h=>l3MemoryG b2 n (hdC c) hb' hl' h (by simp only [hdC];omega) (by simp only [hdC];omega)
 obtain ⟨vs,ar,l⟩:=c
 simp only [hdC] at hhd hme p1 p2 p3
 unfold cdC at hhd
 simp only [cdC] at hhd ⊢
 iterate 4 ((try (refine drvZ Tryz.func12 ?_;simp only [go_sem,renCs_rdr]));((with_reducible and_intros)<;>try exact sd);(try first | refine XK.p hhd ok50 ?_ | refine XK.gp hhd ok50 ?_))
 have hme1:=hme n2 (by omega)
 refine XK.callG [256] hme1 ok30 (hhp_one (by simp [upd,renCs_rdr])) (hbT ()) (fun d h' ⟨_,_,_,_,_,_,e⟩=>by subst e;simp) ?_
 rintro _ _ ⟨b,rfl,hbm,n4,hn7,hn8,rfl⟩ _
 have hbv:=hbm.nv
 have hba:=hbm.na
 have haa:=fun a h=>(hbm.arr a h).1
 simp only at hbv hba
 have hbe:=l3BendB b2 n4 b hb' hl' (by omega) (by omega) (by omega) haa
 obtain ⟨va2,arr2⟩:=b
 simp only at hbv hba haa
 iterate 3 ((try (refine drvZ Tryz.func12 ?_;simp only [go_sem,renCs_rdr,Mm.cells]));((with_reducible and_intros)<;>try exact sd))
 refine XK.callG [256] hbe ok49 (hhp_one (by simp [upd,renCs_rdr])) (hbT ()) (fun d h' ⟨_,_,_,_,_,_,_,e⟩=>by subst e;simp) ?_
 rintro _ _ ⟨m',rfl,hm',hbn,n5,hn9,hn10,rfl⟩ _
 obtain ⟨va3,arr3⟩:=m'
 iterate 3 ((try (refine drvZ Tryz.func12 ?_;simp only [go_sem,renCs_rdr,Mm.cells]));((with_reducible and_intros)<;>try exact sd))
 have hwr:=l11WrongL b2 n5 hb' hl' (by omega)
 refine XK.callG [256] hwr ok51 (hhp_one (by simp [upd,renCs_rdr])) (hbT ()) (fun d h' ⟨_,_,_,_,_,_,e⟩=>by subst e;simp) ?_ (fun _=>⟨by kernel_rfl,_,_,⟨[],rfl,by simp,n5,by omega,by omega,rfl⟩,by simp⟩)
 rintro _ _ ⟨ws,rfl,hws,n6,hn11,hn12,rfl⟩ _
 iterate 3 ((try (refine drvZ Tryz.func12 ?_;simp only [go_sem,renCs_rdr,Mm.cells,boolsD]));((with_reducible and_intros)<;>try exact sd))
 refine RetOb.ofQ (fun _=>none) [] (.tup [.agg (cdC ⟨vs,ar,l⟩),.agg (Mm.cells ⟨va3,arr3⟩),.c (boolsD ws)]) [] ?_ (by rw [← hR];exact ⟨_,_,_,rfl,hws,rfl⟩) (by simp)
 all_goals simp [Mm.cells,cdC,isI,enumL,DM,DMs,CM,CMs,HpOK,LowOK,hOf,upd,kf,boolsD]
open CtL (In Cd compP fnC plF codeOK specM)
theorem specC_len (c:Cd) (m:Mm) (ws:List Bool):(specC c m ws).2.1.length≤200000:=by
 unfold specC
 split
 ·split
  ·rename_i q hq
   exact CtL.specM_len 20000 0 _ q step_len hq
  ·simp
 ·simp
theorem fence_key {p : Pg} {a b : Mm} (h : progOK p = true) (hl : CtL.lenL 5 p.body + 1 ≤ 400) (h4 : plF (CtL.compL p) (CtL.compL p).length ≤ 400) (ha : memOK p.vars p.arrays a = true) (hb : memOK p.vars p.arrays b = true) (ws : List Bool) :
 trSame (runP p a).2.1 (runP p b).2.1=true→(specC ⟨p.vars,p.arrays,fnC (CtL.compL p)⟩ a ws).2.2=(specC ⟨p.vars,p.arrays,fnC (CtL.compL p)⟩ b ws).2.2∧trSame (specC ⟨p.vars,p.arrays,fnC (CtL.compL p)⟩ a ws).2.1 (specC ⟨p.vars,p.arrays,fnC (CtL.compL p)⟩ b ws).2.1=true:=fun he=>by
 rw [trSame_iff,runP_of h ha,runP_of h hb] at he
 have hx:=CtL.xP_leak h he
 have hcv:=CtL.comp_valid h hl
 have hfo:=CtL.fence_ok hcv h4
 simp only at hfo
 obtain ⟨n1,m1,e1⟩:=CtL.comp_reach h ha
 obtain ⟨n2,m2,e2⟩:=CtL.comp_reach h hb
 have f1:=CtL.runM_more n1 n2 _ _ e1
 have f2:=CtL.runM_more n2 n1 _ _ e2
 rw [Nat.add_comm n2 n1,← hx] at f2
 have hln:=CtL.compL_len h
 have key:=CtL.fence_two (CtL.wf_of hcv) (CtL.compL_nf h) ws (n1+n2) ⟨0,List.replicate 14 0,a⟩ ⟨0,List.replicate 14 0,b⟩ m1 m2 _ rfl (by simp only;omega) f1 f2 20000 0
 have z0:plF (CtL.compL p) 0=0:=rfl
 simp only [z0] at key
 rw [trSame_iff]
 unfold specC
 rw [hfo,ha,hb]
 simp only [Bool.and_self,if_true]
 generalize specM (fnC (CtL.compL p)) ws 20000 0 ⟨0,List.replicate 14 0,a⟩=o1 at *
 generalize specM (fnC (CtL.compL p)) ws 20000 0 ⟨0,List.replicate 14 0,b⟩=o2 at *
 cases o1<;>cases o2<;>simp [CtL.trO] at key ⊢
 exact key
theorem fenceP_no (c:Cd) (h:(codeOK c && decide (plF c.list c.list.length≤400))=false):fenceP c=(⟨[],[],[]⟩,false):=by unfold fenceP;rw [h];rfl
theorem fenceP_yes (c:Cd) (h:codeOK c=true) (h4:plF c.list c.list.length≤400):fenceP c=(⟨c.vars,c.arrays,fnC c.list⟩,true):=by simp [fenceP,h,h4]
theorem lawFence (bs cs:List Int) (hb:Fits .u8 bs) (hb2:Fits .u8 cs) (hl:bs.length≤mx) (hl2:cs.length≤mx):DC Tryz.prog 3 [bytesD bs,bytesD cs] [] (fun d h=>d=DB true∧h=[]):=by
 have hmx:=mx_eq
 have hdr:=drawTwoRuns bs hb hl
 have hds:=drawSpecRun cs hb2 hl2
 unfold bytesD
 unfold bytesD at hdr hds
 have ret:∀ hp:Hp,RetOb 0 (fun d h=>d=DB true∧h=[]) (DB true) hp:=fun hp=>RetOb.plain (d:=DB true) ⟨rfl,rfl⟩ rfl
 generalize hRR:(fun (d:D) (h:List (Option (List C)))=>d=DB true∧h=[])=R at ret ⊢
 by_cases hbig:1048576<bs.length
 ·have hz:((1048576:Int)<(bs.length:Int))=True:=eq_true (by omega)
  refine dcZ Tryz.func3 ?_
  simp only [go_sem,hz]
  iterate 3 ((try (refine drvZ Tryz.func3 ?_;simp only [go_sem,hz]));((with_reducible and_intros)<;>try exact sd))
  exact ret _
 have hz:((1048576:Int)<(bs.length:Int))=False:=eq_false (by omega)
 by_cases hbig2:1048576<cs.length
 ·have hz2:((1048576:Int)<(cs.length:Int))=True:=eq_true (by omega)
  refine dcZ Tryz.func3 ?_
  simp only [go_sem,hz,hz2]
  iterate 3 ((try (refine drvZ Tryz.func3 ?_;simp only [go_sem,hz,hz2]));((with_reducible and_intros)<;>try exact sd))
  exact ret _
 have hz2:((1048576:Int)<(cs.length:Int))=False:=eq_false (by omega)
 refine dcZ Tryz.func3 ?_
 simp only [go_sem,hz,hz2]
 iterate 3 ((try (refine drvZ Tryz.func3 ?_;simp only [go_sem,hz,hz2]));((with_reducible and_intros)<;>try exact sd))
 refine XK.callG [] hdr ok6 (fun i' x h=>by simp at h) (hbT ()) (fun d h' ⟨_,_,_,_,_,_,_,_,e⟩=>by subst e;simp) ?_
 rintro _ _ ⟨p,ma,mb,rfl,hp,hma,hmb,_,rfl⟩ _
 clear hdr
 have h1:=hp.nv
 have h2:=hp.na
 have h3:=hp.nb
 have hls:=lsize_sm 2 5 p.body hp.sm
 have hls2:p.body.length * 9 ^ 2≤4 * 9 ^ 2:=Nat.mul_le_mul_right _ h3
 have hci:=compProgIA p (by omega) (by omega)
 have hcs:=compProgS p (by omega) (by omega) (by omega)
 have hoa:=memOK_of hma
 have hob:=memOK_of hmb
 have hsame0:=codeSame ⟨[],[],[]⟩ (by simp) (by simp) (by simp)
 rcases compP_cases p with hc | ⟨hok,hlen,hc⟩
 ·rw [hc] at hci hcs
  have hfi:=fenceI ⟨[],[],[]⟩ (by simp) (by simp) (by simp)
  have hfs:=fenceS ⟨[],[],[]⟩ (by simp) (by simp) (by simp)
  rw [fenceP_no ⟨[],[],[]⟩ (by simp [codeOK])] at hfi hfs
  simp only [cdC,ints,List.map_nil] at hci hcs hsame0 hfi hfs
  obtain ⟨vs,ar,bd⟩:=p
  obtain ⟨va,arr⟩:=ma
  obtain ⟨wa,brr⟩:=mb
  iterate 24 ((try (refine drvZ Tryz.func3 ?_;simp only [go_sem,Mm.cells,trD,bne_self_eq_false,beq_self_eq_true]));((with_reducible and_intros)<;>try exact sd);(try first | refine XK.p hci ok7 ?_ | refine XK.gp hci ok7 ?_ | refine XK.p hcs ok8 ?_ | refine XK.gp hcs ok8 ?_ | refine XK.p hfi ok9 ?_ | refine XK.gp hfi ok9 ?_ | refine XK.p hfs ok10 ?_ | refine XK.gp hfs ok10 ?_ | refine XK.p hsame0 ok11 ?_ | refine XK.gp hsame0 ok11 ?_))
  exact ret _
 ·have hlc:=CtL.compL_len hok
  have hpl:=prog_len hok
  have hcv:=CtL.comp_valid hok hlen
  rw [hc] at hci hcs
  have hfi:=fenceI ⟨p.vars,p.arrays,CtL.compL p⟩ (by simp only;omega) (by simp only;omega) (by simp only;omega)
  have hfs:=fenceS ⟨p.vars,p.arrays,CtL.compL p⟩ (by simp only;omega) (by simp only;omega) (by simp only;omega)
  by_cases h4:plF (CtL.compL p) (CtL.compL p).length≤400
  ·have hfo:=CtL.fence_ok hcv h4
   simp only at hfo
   have hfl:(fnC (CtL.compL p)).length=plF (CtL.compL p) (CtL.compL p).length:=CtL.fnL_len _ _
   rw [fenceP_yes _ hcv h4] at hfi hfs
   have hsame:=codeSame ⟨p.vars,p.arrays,fnC (CtL.compL p)⟩ (by simp only;omega) (by simp only;omega) (by simp only;omega)
   simp only [cdC,ints] at hci hcs hsame hfi hfs
   have hr1:=runProgI p ma (by omega) (by omega)
   have hr2:=runProgI p mb (by omega) (by omega)
   have hs1:=runP_sm p ma
   have hs2:=runP_sm p mb
   have hx1:=fun ws h=>specRunI ⟨p.vars,p.arrays,fnC (CtL.compL p)⟩ ma ws h hfo
   have hx2:=fun ws h=>specRunI ⟨p.vars,p.arrays,fnC (CtL.compL p)⟩ mb ws h hfo
   have hl1:=specC_len ⟨p.vars,p.arrays,fnC (CtL.compL p)⟩ ma
   have hl2:=specC_len ⟨p.vars,p.arrays,fnC (CtL.compL p)⟩ mb
   have hb1:(runP p ma).2.2=true:=by rw [runP_of hok hoa]
   have hb2:(runP p mb).2.2=true:=by rw [runP_of hok hob]
   have key:=fence_key hok hlen h4 hoa hob
   generalize fnC (CtL.compL p)=B at *
   generalize CtL.compL p=A at *
   generalize runP p ma=X1 at *
   generalize runP p mb=X2 at *
   obtain ⟨⟨u1,u2⟩,t1,b1⟩:=X1
   obtain ⟨⟨w1,w2⟩,t2,b2⟩:=X2
   simp only at hs1 hs2 hb1 hb2 key hr1 hr2
   subst hb1 hb2
   have hta:=traceSame t1 t2 (by omega)
   generalize trSame t1 t2=g1 at *
   iterate 24 ((try (refine drvZ Tryz.func3 ?_;simp only [go_sem,bne_self_eq_false,beq_self_eq_true]));((with_reducible and_intros)<;>try exact sd);(try first | refine XK.p hci ok7 ?_ | refine XK.gp hci ok7 ?_ | refine XK.p hcs ok8 ?_ | refine XK.gp hcs ok8 ?_ | refine XK.p hfi ok9 ?_ | refine XK.gp hfi ok9 ?_ | refine XK.p hfs ok10 ?_ | refine XK.gp hfs ok10 ?_ | refine XK.p hsame ok11 ?_ | refine XK.gp hsame ok11 ?_))
   refine XK.callG [] hds ok12 (fun i' x h=>by simp at h) (hbT ()) (fun d h' ⟨_,_,_,_,_,e⟩=>by subst e;simp) ?_
   rintro _ _ ⟨c0,a0,ws,rfl,hws,rfl⟩ _
   clear hds
   have hx1:=hx1 ws (by omega)
   have hx2:=hx2 ws (by omega)
   have hl1:=hl1 ws
   have hl2:=hl2 ws
   have kq:=key ws
   clear key
   generalize specC ⟨p.vars,p.arrays,B⟩ ma ws=Y1 at *
   generalize specC ⟨p.vars,p.arrays,B⟩ mb ws=Y2 at *
   obtain ⟨⟨x1,x2⟩,t3,b3⟩:=Y1
   obtain ⟨⟨y1,y2⟩,t4,b4⟩:=Y2
   simp only at hl1 hl2 hx1 hx2 kq
   have htb:=traceSame t3 t4 (by omega)
   generalize trSame t3 t4=g2 at *
   obtain ⟨vs,ar,bd⟩:=p
   obtain ⟨va,arr⟩:=ma
   obtain ⟨wa,brr⟩:=mb
   obtain ⟨cv,ca,cl⟩:=c0
   obtain ⟨av,aa⟩:=a0
   simp only [cdC,ints] at hx1 hx2
   cases g1 with
   | false =>
    iterate 40 ((try (refine drvZ Tryz.func3 ?_;simp only [go_sem,cdC,ints,Mm.cells,trD,boolsD,bne_self_eq_false,beq_self_eq_true]));((with_reducible and_intros)<;>try exact sd);(try first | refine XK.p hr1 ok13 ?_ | refine XK.gp hr1 ok13 ?_ | refine XK.p hr2 ok13 ?_ | refine XK.gp hr2 ok13 ?_ | refine XK.p hx1 ok14 ?_ | refine XK.gp hx1 ok14 ?_ | refine XK.p hx2 ok14 ?_ | refine XK.gp hx2 ok14 ?_ | refine XK.p hta ok15 ?_ | refine XK.gp hta ok15 ?_ | refine XK.p htb ok15 ?_ | refine XK.gp htb ok15 ?_))
    exact ret _
   | true =>
    obtain ⟨e1,e2⟩:=kq rfl
    subst e1 e2
    iterate 40 ((try (refine drvZ Tryz.func3 ?_;simp only [go_sem,cdC,ints,Mm.cells,trD,boolsD,bne_self_eq_false,beq_self_eq_true]));((with_reducible and_intros)<;>try exact sd);(try first | refine XK.p hr1 ok13 ?_ | refine XK.gp hr1 ok13 ?_ | refine XK.p hr2 ok13 ?_ | refine XK.gp hr2 ok13 ?_ | refine XK.p hx1 ok14 ?_ | refine XK.gp hx1 ok14 ?_ | refine XK.p hx2 ok14 ?_ | refine XK.gp hx2 ok14 ?_ | refine XK.p hta ok15 ?_ | refine XK.gp hta ok15 ?_ | refine XK.p htb ok15 ?_ | refine XK.gp htb ok15 ?_))
    exact ret _
  ·rw [fenceP_no _ (by simp [h4])] at hfi hfs
   simp only [cdC,ints,List.map_nil] at hci hcs hsame0 hfi hfs
   obtain ⟨vs,ar,bd⟩:=p
   obtain ⟨va,arr⟩:=ma
   obtain ⟨wa,brr⟩:=mb
   iterate 24 ((try (refine drvZ Tryz.func3 ?_;simp only [go_sem,Mm.cells,trD,bne_self_eq_false,beq_self_eq_true]));((with_reducible and_intros)<;>try exact sd);(try first | refine XK.p hci ok7 ?_ | refine XK.gp hci ok7 ?_ | refine XK.p hcs ok8 ?_ | refine XK.gp hcs ok8 ?_ | refine XK.p hfi ok9 ?_ | refine XK.gp hfi ok9 ?_ | refine XK.p hfs ok10 ?_ | refine XK.gp hfs ok10 ?_ | refine XK.p hsame0 ok11 ?_ | refine XK.gp hsame0 ok11 ?_))
   exact ret _
end Go.Proofs.YtbknljofedfpjaaGreat.CtD
