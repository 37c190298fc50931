/- Contracts of functions of the program, one behind the other, as plain data: what each call returns and which blocks it leaves. -/
import Derived.Test.YtddanjifhdaebaaIFacts
import Derived.Test.YtddanjifhdaebaaIAi
import Derived.Test.YtddanjifhdaebaaIAm
import Derived.Test.YtddanjifhdaebaaIAr
import Derived.Test.YtddanjifhdaebaaIAl
import Derived.Test.YtddanjifhdaebaaIAo
import Derived.Test.YtddanjifhdaebaaIAk
set_option linter.unusedVariables false
set_option linter.unusedSimpArgs false
set_option linter.unusedSectionVars false
set_option maxHeartbeats 16000000
set_option maxRecDepth 100000
namespace Go.Proofs.Ytddanjifhdaebaa.CtD
open Go Go.CT CtF CtR
variable [Yn]
theorem szIntS (xs:List Int) (hl:xs.length≤mx) (left:Int) (h0:0≤left) (h1:left≤1048576):DC Try.prog 66 [.c (isI xs),DI .i64 left] [] (fun r h=>r=DI .i64 (subZ left xs.length)∧h=[]):=by
 have hmx:=mx_eq
 have ret:∀ (v:Int) (hp:Hp),v=subZ left xs.length→RetOb 0 (fun r h=>r=DI .i64 (subZ left xs.length)∧h=[]) (DI .i64 v) hp:=fun v hp h=>RetOb.plain (d:=DI .i64 _) ⟨by rw [h],rfl⟩ rfl
 generalize hR:(fun (r:D) (h:List (Option (List C)))=>r=DI .i64 (subZ left xs.length)∧h=[])=R at ret ⊢
 clear hR
 by_cases hq:(xs.length:Int)≤left
 ·have g:(left - (xs.length:Int)<0)=False:=eq_false (by omega)
  refine dcZ Try.func66 ?_
  simp only [go_sem,List.length_map,g]
  iterate 4 ((try (refine drvZ Try.func66 ?_;simp only [go_sem,List.length_map,g]));((with_reducible and_intros)<;>try exact sd))
  exact ret _ _ (by rw [subZ,if_pos hq])
 ·have g:(left - (xs.length:Int)<0)=True:=eq_true (by omega)
  refine dcZ Try.func66 ?_
  simp only [go_sem,List.length_map,g]
  iterate 4 ((try (refine drvZ Try.func66 ?_;simp only [go_sem,List.length_map,g]));((with_reducible and_intros)<;>try exact sd))
  exact ret _ _ (by rw [subZ,if_neg hq])
theorem szIntSSOf (l : List (List Int)) (hl : l.length ≤ mx) (hc : ∀ x ∈ l, ∀ left : Int, 0 ≤ left → left ≤ 1048576 → DC Try.prog 66 [.c (isI x), DI .i64 left] [] (fun r h => r = DI .i64 (subZ left (List.length x)) ∧ h = [])) (left : Int) (h0 : 0 ≤ left) (h1 : left ≤ 1048576) :
 DC Try.prog 103 [.c (.isl 1 ((l.map fun a=>[isI a]))),DI .i64 left] [] (fun r h=>r=DI .i64 (subZ left (szIL l))∧h=[]):=by
 have hmx:=mx_eq
 have ret:∀ (v:Int) (hp:Hp),v=subZ left (szIL l)→RetOb 0 (fun r h=>r=DI .i64 (subZ left (szIL l))∧h=[]) (DI .i64 v) hp:=fun v hp h=>RetOb.plain (d:=DI .i64 _) ⟨by rw [h],rfl⟩ rfl
 generalize hR:(fun (r:D) (h:List (Option (List C)))=>r=DI .i64 (subZ left (szIL l))∧h=[])=R at ret ⊢
 clear hR
 rw [szIL_eq,sum_split] at ret
 have hrl:((l.map fun a=>[isI a])).length=l.length:=by simp [List.length_map]
 by_cases hq:(l.length:Int)≤left
 ·have g:(left - (l.length:Int)<0)=False:=eq_false (by omega)
  refine dcZ Try.func103 ?_
  simp only [go_sem,hrl,g]
  iterate 4 ((try (refine drvZ Try.func103 ?_;simp only [go_sem,hrl,g]));((with_reducible and_intros)<;>try exact sd))
  refine Go.loopQ (fun i:Nat=>[(0,.c (.isl 1 ((l.map fun a=>[isI a])))),(1,DI .i64 (left - l.length - ((l.take i).map (List.length)).sum)),(5,DI .i64 i)]) (fun _=>[]) 1024 (fun i=>i≤l.length∧(l.length+((l.take i).map (List.length)).sum:Int)≤left) (fun i=>l.length - i) ?_ 0 some [] _ ⟨by omega,by simpa using hq⟩ ?_
  ·rintro i ⟨hi,hI⟩ again
   rcases Nat.lt_or_ge i l.length with hlt | hge
   ·obtain ⟨x,hx⟩:∃ x,l[i]? = some x:=⟨l[i],by simp [hlt]⟩
    have hxl:((l.map fun a=>[isI a]))[i]? = some [isI x]:=by rw [List.getElem?_map,hx];rfl
    have hst:=sum_take (List.length) hx
    have hcx:=hc x (List.mem_of_getElem? hx) (left - l.length - ((l.take i).map (List.length)).sum) (by omega) (by omega)
    generalize hB:((l.take i).map (List.length)).sum=B at *
    have hB2:=hst.1
    have hB3:=hst.2
    by_cases hq2:(List.length x:Int)≤left - l.length - B
    ·rw [subZ,if_pos hq2] at hcx
     have g2:(left - (l.length:Int) - (B:Int) - (List.length x:Int)<0)=False:=eq_false (by omega)
     have hnx:left - (l.length:Int) - (((l.take (i+1)).map (List.length)).sum:Int)=left - l.length - B - List.length x:=by rw [hB2];omega
     generalize List.length x=z at *
     generalize hRW:(l.map fun a=>[isI a])=rows at *
     refine drvL Try.func103 ?_
     simp only [go_sem,hrl,hlt,hxl]
     iterate 6 ((try (refine drvZ Try.func103 ?_;simp only [go_sem,hrl,hlt,hxl,g2]));((with_reducible and_intros)<;>try exact sd);(try first | refine XK.p hcx ok66 ?_ | refine XK.gp hcx ok66 ?_))
     refine again (i+1) some [] _ ⟨hlt,by omega⟩ (by omega) ?_
     simp only [go_sem,TmOK,DM,DMs,CM,CMs,forall_eq,exists_eq_left,Mq,HpOK,LowOK]
     simp only [List.map_take] at hnx
     simp [hnx]
    ·rw [subZ,if_neg hq2] at hcx
     have htot:¬ ((l.length+(l.map (List.length)).sum:Nat):Int)≤left:=by omega
     generalize List.length x=z at *
     generalize hRW:(l.map fun a=>[isI a])=rows at *
     refine drvL Try.func103 ?_
     simp only [go_sem,hrl,hlt,hxl]
     iterate 6 ((try (refine drvZ Try.func103 ?_;simp only [go_sem,hrl,hlt,hxl]));((with_reducible and_intros)<;>try exact sd);(try first | refine XK.p hcx ok66 ?_ | refine XK.gp hcx ok66 ?_))
     exact ret _ _ (by rw [subZ,if_neg htot])
   ·obtain rfl:i=l.length:=by omega
    have hn:¬ l.length<l.length:=by omega
    rw [List.take_length] at hI
    generalize hRW:(l.map fun a=>[isI a])=rows at *
    simp only [List.take_length]
    refine drvL Try.func103 ?_
    simp only [go_sem,hrl,hn]
    iterate 3 ((try (refine drvZ Try.func103 ?_;simp only [go_sem,hrl,hn]));((with_reducible and_intros)<;>try exact sd))
    exact ret _ _ (by rw [subZ,if_pos (by omega)];omega)
  ·simp only [go_sem,TmOK,DM,DMs,CM,CMs,forall_eq,exists_eq_left,Mq,HpOK,LowOK]
   try simp
 ·have g:(left - (l.length:Int)<0)=True:=eq_true (by omega)
  refine dcZ Try.func103 ?_
  simp only [go_sem,hrl,g]
  iterate 4 ((try (refine drvZ Try.func103 ?_;simp only [go_sem,hrl,g]));((with_reducible and_intros)<;>try exact sd))
  exact ret _ _ (by rw [subZ,if_neg (by omega)])
theorem szMemoryOf (m : Mm) (hv : ∀ left : Int, 0 ≤ left → left ≤ 1048576 → DC Try.prog 66 [.c (isI m.vals), DI .i64 left] [] (fun r h => r = DI .i64 (subZ left (m.vals.length)) ∧ h = [])) (ha : ∀ left : Int, 0 ≤ left → left ≤ 1048576 → DC Try.prog 103 [.c (.isl 1 (m.arrays.map fun a => [isI a])), DI .i64 left] [] (fun r h => r = DI .i64 (subZ left (szIL m.arrays)) ∧ h = [])) (left : Int) (h0 : 0 ≤ left) (h1 : left ≤ 1048576) :
 DC Try.prog 44 [.agg m.cells,DI .i64 left] [] (fun r h=>r=DI .i64 (subZ left (m.vals.length+szIL m.arrays))∧h=[]):=by
 have hmx:=mx_eq
 have ret:∀ (u:Int) (hp:Hp),u=subZ left (m.vals.length+szIL m.arrays)→RetOb 0 (fun r h=>r=DI .i64 (subZ left (m.vals.length+szIL m.arrays))∧h=[]) (DI .i64 u) hp:=fun u hp h=>RetOb.plain (d:=DI .i64 _) ⟨by rw [h],rfl⟩ rfl
 generalize hR:(fun (r:D) (h:List (Option (List C)))=>r=DI .i64 (subZ left (m.vals.length+szIL m.arrays))∧h=[])=R at ret ⊢
 clear hR
 obtain ⟨va,arr⟩:=m
 simp only [Mm.cells] at *
 generalize hz1:va.length=z1 at *
 generalize szIL arr=z2 at *
 have k0:=hv (left) (by omega) (by omega)
 by_cases q0:((z1:Nat):Int)≤left
 ·rw [subZ,if_pos q0] at k0
  have g0:(left - ((z1:Nat):Int)<0)=False:=eq_false (by omega)
  have k1:=ha (left - ((z1:Nat):Int)) (by omega) (by omega)
  by_cases q1:((z2:Nat):Int)≤left - ((z1:Nat):Int)
  ·rw [subZ,if_pos q1] at k1
   have g1:(left - ((z1:Nat):Int) - ((z2:Nat):Int)<0)=False:=eq_false (by omega)
   refine dcZ Try.func44 ?_
   simp only [go_sem,g0,g1]
   iterate 10 ((try (refine drvZ Try.func44 ?_;simp only [go_sem,g0,g1]));((with_reducible and_intros)<;>try exact sd);(try first | refine XK.p k0 ok66 ?_ | refine XK.gp k0 ok66 ?_ | refine XK.p k1 ok103 ?_ | refine XK.gp k1 ok103 ?_))
   exact ret _ _ (by rw [subZ,if_pos (by omega)]<;>omega)
  ·rw [subZ,if_neg q1] at k1
   refine dcZ Try.func44 ?_
   simp only [go_sem,g0]
   iterate 10 ((try (refine drvZ Try.func44 ?_;simp only [go_sem,g0]));((with_reducible and_intros)<;>try exact sd);(try first | refine XK.p k0 ok66 ?_ | refine XK.gp k0 ok66 ?_ | refine XK.p k1 ok103 ?_ | refine XK.gp k1 ok103 ?_))
   exact ret _ _ (by rw [subZ,if_neg (by omega)])
 ·rw [subZ,if_neg q0] at k0
  refine dcZ Try.func44 ?_
  simp only [go_sem]
  iterate 10 ((try (refine drvZ Try.func44 ?_;simp only [go_sem]));((with_reducible and_intros)<;>try exact sd);(try first | refine XK.p k0 ok66 ?_ | refine XK.gp k0 ok66 ?_))
  exact ret _ _ (by rw [subZ,if_neg (by omega)])
theorem szMemory_c (m:Mm) (hb:MmB m) (left:Int) (h0:0≤left) (h1:left≤1048576):DC Try.prog 44 [.agg m.cells,DI .i64 left] [] (fun r h=>r=DI .i64 (subZ left (szM m))∧h=[]) :=
 szMemoryOf m (fun l a b=>szIntS m.vals hb.nv l a b) (szIntSSOf m.arrays hb.na fun x hx l a b=>szIntS x (hb.ar x hx) l a b) left h0 h1
theorem eqIntST (l:List (Int)) (hl:l.length≤mx)  : DC Try.prog 48 [.c (.isl 1 ((l.map fun n=>[I64 n]))),.c (.isl 1 ((l.map fun n=>[I64 n])))] [] (fun r h=>r=DB true∧h=[]):=by
 have hmx:=mx_eq
 have ret:∀ hp:Hp,RetOb 0 (fun r h=>r=DB true∧h=[]) (DB true) hp:=fun hp=>RetOb.plain (d:=DB true) ⟨rfl,rfl⟩ rfl
 generalize hR:(fun (r:D) (h:List (Option (List C)))=>r=DB true∧h=[])=R at ret ⊢
 clear hR
 have hrl:((l.map fun n=>[I64 n])).length=l.length:=by simp [List.length_map]
 have hrx:∀ (i:Nat) x,l[i]? = some x→True:=fun _ _ _=>trivial
 refine dcZ Try.func48 ?_
 simp only [go_sem,hrl,bne_self_eq_false]
 iterate 4 ((try (refine drvZ Try.func48 ?_;simp only [go_sem,hrl,bne_self_eq_false]));((with_reducible and_intros)<;>try exact sd))
 refine Go.loopQ (fun i:Nat=>[(0,.c (.isl 1 ((l.map fun n=>[I64 n])))),(1,.c (.isl 1 ((l.map fun n=>[I64 n])))),(5,DI .i64 i)]) (fun _=>[]) 1024 (fun i=>i≤l.length) (fun i=>l.length - i) ?_ 0 some [] _ (by omega) ?_
 ·intro i hi again
  rcases Nat.lt_or_ge i l.length with hlt | hge
  ·obtain ⟨x,hx⟩:∃ x,l[i]? = some x:=⟨l[i],by simp [hlt]⟩
   have hxl:((l.map fun n=>[I64 n]))[i]? = some [I64 x]:=by rw [List.getElem?_map,hx];rfl
   generalize hRW:(l.map fun n=>[I64 n])=rows at *
   refine drvL Try.func48 ?_
   simp only [go_sem,hrl,hlt,hxl,bne_self_eq_false]
   iterate 6 ((try (refine drvZ Try.func48 ?_;simp only [go_sem,hrl,hlt,hxl,bne_self_eq_false]));((with_reducible and_intros)<;>try exact sd))
   refine again (i+1) some [] _ hlt (by omega) ?_
   simp only [go_sem,TmOK,DM,DMs,CM,CMs,forall_eq,exists_eq_left,Mq,HpOK,LowOK]
   try simp
  ·have hn:¬ i<l.length:=by omega
   generalize hRW:(l.map fun n=>[I64 n])=rows at *
   refine drvL Try.func48 ?_
   simp only [go_sem,hrl,hn]
   iterate 3 ((try (refine drvZ Try.func48 ?_;simp only [go_sem,hrl,hn]));((with_reducible and_intros)<;>try exact sd))
   exact ret _
 ·simp only [go_sem,TmOK,DM,DMs,CM,CMs,forall_eq,exists_eq_left,Mq,HpOK,LowOK]
  try simp
theorem eqIntSSOf (l:List (List Int)) (hl:l.length≤mx) (hc:∀ x ∈ l,DC Try.prog 48 [.c (isI x),.c (isI x)] [] (fun r h=>r=DB true∧h=[])):DC Try.prog 105 [.c (.isl 1 ((l.map fun a=>[isI a]))),.c (.isl 1 ((l.map fun a=>[isI a])))] [] (fun r h=>r=DB true∧h=[]):=by
 have hmx:=mx_eq
 have ret:∀ hp:Hp,RetOb 0 (fun r h=>r=DB true∧h=[]) (DB true) hp:=fun hp=>RetOb.plain (d:=DB true) ⟨rfl,rfl⟩ rfl
 generalize hR:(fun (r:D) (h:List (Option (List C)))=>r=DB true∧h=[])=R at ret ⊢
 clear hR
 have hrl:((l.map fun a=>[isI a])).length=l.length:=by simp [List.length_map]
 have hrx:∀ (i:Nat) x,l[i]? = some x→True:=fun _ _ _=>trivial
 refine dcZ Try.func105 ?_
 simp only [go_sem,hrl,bne_self_eq_false]
 iterate 4 ((try (refine drvZ Try.func105 ?_;simp only [go_sem,hrl,bne_self_eq_false]));((with_reducible and_intros)<;>try exact sd))
 refine Go.loopQ (fun i:Nat=>[(0,.c (.isl 1 ((l.map fun a=>[isI a])))),(1,.c (.isl 1 ((l.map fun a=>[isI a])))),(5,DI .i64 i)]) (fun _=>[]) 1024 (fun i=>i≤l.length) (fun i=>l.length - i) ?_ 0 some [] _ (by omega) ?_
 ·intro i hi again
  rcases Nat.lt_or_ge i l.length with hlt | hge
  ·obtain ⟨x,hx⟩:∃ x,l[i]? = some x:=⟨l[i],by simp [hlt]⟩
   have hxl:((l.map fun a=>[isI a]))[i]? = some [isI x]:=by rw [List.getElem?_map,hx];rfl
   have hcx:=hc x (List.mem_of_getElem? hx)
   generalize hRW:(l.map fun a=>[isI a])=rows at *
   refine drvL Try.func105 ?_
   simp only [go_sem,hrl,hlt,hxl,bne_self_eq_false]
   iterate 6 ((try (refine drvZ Try.func105 ?_;simp only [go_sem,hrl,hlt,hxl,bne_self_eq_false]));((with_reducible and_intros)<;>try exact sd);(try first | refine XK.p hcx ok48 ?_ | refine XK.gp hcx ok48 ?_))
   refine again (i+1) some [] _ hlt (by omega) ?_
   simp only [go_sem,TmOK,DM,DMs,CM,CMs,forall_eq,exists_eq_left,Mq,HpOK,LowOK]
   try simp
  ·have hn:¬ i<l.length:=by omega
   generalize hRW:(l.map fun a=>[isI a])=rows at *
   refine drvL Try.func105 ?_
   simp only [go_sem,hrl,hn]
   iterate 3 ((try (refine drvZ Try.func105 ?_;simp only [go_sem,hrl,hn]));((with_reducible and_intros)<;>try exact sd))
   exact ret _
 ·simp only [go_sem,TmOK,DM,DMs,CM,CMs,forall_eq,exists_eq_left,Mq,HpOK,LowOK]
  try simp
theorem eqMemoryOf (m:Mm) (hv:DC Try.prog 48 [.c (isI m.vals),.c (isI m.vals)] [] (fun r h=>r=DB true∧h=[])) (ha:DC Try.prog 105 [.c (.isl 1 (m.arrays.map fun a=>[isI a])),.c (.isl 1 (m.arrays.map fun a=>[isI a]))] [] (fun r h=>r=DB true∧h=[])):DC Try.prog 49 [.agg m.cells,.agg m.cells] [] (fun r h=>r=DB true∧h=[]):=by
 have hmx:=mx_eq
 have ret:∀ hp:Hp,RetOb 0 (fun r h=>r=DB true∧h=[]) (DB true) hp:=fun hp=>RetOb.plain (d:=DB true) ⟨rfl,rfl⟩ rfl
 generalize hR:(fun (r:D) (h:List (Option (List C)))=>r=DB true∧h=[])=R at ret ⊢
 clear hR
 obtain ⟨va,arr⟩:=m
 simp only [Mm.cells] at *
 refine dcZ Try.func49 ?_
 simp only [go_sem,bne_self_eq_false]
 iterate 10 ((try (refine drvZ Try.func49 ?_;simp only [go_sem,bne_self_eq_false]));((with_reducible and_intros)<;>try exact sd);(try first | refine XK.p hv ok48 ?_ | refine XK.gp hv ok48 ?_ | refine XK.p ha ok105 ?_ | refine XK.gp ha ok105 ?_))
 exact ret _
theorem eqMemory_c (m:Mm) (hb:MmB m):DC Try.prog 49 [.agg m.cells,.agg m.cells] [] (fun r h=>r=DB true∧h=[]) :=
 eqMemoryOf m (eqIntST m.vals hb.nv) (eqIntSSOf m.arrays hb.na fun x hx=>eqIntST x (hb.ar x hx))
theorem toIntST (l:List (Int)) (hl:l.length≤1048576)  : DC Try.prog 74 [.c (.isl 1 ((l.map fun n=>[I64 n])))] [] (fun r h=>r = .c (.isl 1 ((l.map fun n=>[I64 n])))∧h=[]):=by
 have hmx:=mx_eq
 have hrl:((l.map fun n=>[I64 n])).length=l.length:=by simp [List.length_map]
 have hrw:∀ x ∈ ((l.map fun n=>[I64 n])),x.length=1:=fun x hx=>by obtain ⟨e,_,rfl⟩:=List.mem_map.1 hx;rfl
 have hrk:∀ x ∈ ((l.map fun n=>[I64 n])),∀ c ∈ x,kf c=true:=fun x hx c hc=>by obtain ⟨e,_,rfl⟩:=List.mem_map.1 hx;simp only [List.mem_singleton] at hc;subst hc;rfl
 have ret:∀ (k n:Nat) (cs:List C) (hp:Hp),hp k=some (some cs)→cs=((l.map fun n=>[I64 n])).flatten→n=l.length→RetOb 0 (fun r h=>r = .c (.isl 1 ((l.map fun n=>[I64 n])))∧h=[]) (.c (.msl k 1 0 n)) hp:=fun k n cs hp h1 h2 h3=>RetOb.frozen (xs:=(l.map fun n=>[I64 n])) ⟨rfl,rfl⟩ (by rw [h1,h2]) (by rw [h3,hrl]) hrw hrk
 generalize hR:(fun (r:D) (h:List (Option (List C)))=>r = .c (.isl 1 ((l.map fun n=>[I64 n])))∧h=[])=R at ret ⊢
 clear hR
 have hrx:∀ (i:Nat) x,l[i]? = some x→True:=fun _ _ _=>trivial
 have flr:∀ i,i≤l.length→((((l.map fun n=>[I64 n])).take i).flatten).length=i * 1:=fun i hi=>by
  have:=List.length_flatten (L:=((l.map fun n=>[I64 n])).take i)
  rw [this,show ((((l.map fun n=>[I64 n])).take i).map List.length)=List.replicate i 1 from List.eq_replicate_iff.2 ⟨by simp [hrl];omega,fun b hb=>by obtain ⟨x,hx,rfl⟩:=List.mem_map.1 hb;exact hrw x (List.mem_of_mem_take hx)⟩]
  simp
 have hzk:∀ c ∈ ([I64 0]:List C),kf c=true:=by simp [kf]
 have hbk0:∀ c ∈ (List.replicate l.length ([I64 0]:List C)).flatten,kf c=true:=fun c hc=>by
  obtain ⟨y,hy,h2⟩:=List.mem_flatten.1 hc
  rw [List.eq_of_mem_replicate hy] at h2
  exact hzk c h2
 refine dcZ Try.func74 ?_
 simp only [go_sem,hrl]
 iterate 4 ((try (refine drvZ Try.func74 ?_;simp only [go_sem,hrl]));((with_reducible and_intros)<;>try exact sd))
 refine Go.loopQ (fun i:Nat=>[(0,.c (.isl 1 ((l.map fun n=>[I64 n])))),(3,.c (.msl 192 1 0 l.length)),(4,DI .i64 i)]) (fun i=>[(192,some ((((l.map fun n=>[I64 n])).take i).flatten++(List.replicate (l.length - i) [I64 0]).flatten))]) 1024 (fun i=>i≤l.length) (fun i=>l.length - i) ?_ 0 some [] _ (by omega) ?_
 ·intro i hi again
  rcases Nat.lt_or_ge i l.length with hlt | hge
  ·obtain ⟨x,hx⟩:∃ x,l[i]? = some x:=⟨l[i],by simp [hlt]⟩
   have hxl:((l.map fun n=>[I64 n]))[i]? = some [I64 x]:=by rw [List.getElem?_map,hx];rfl
   have hput:=put_row (rows:=((l.map fun n=>[I64 n])).take i) (zs:=[I64 0]) (ds:=[I64 x]) (m:=l.length - (i+1)) (k:=1) (i:=i) rfl rfl (flr i hi)
   rw [show l.length - (i+1)+1=l.length - i by omega,← (show ((l.map fun n=>[I64 n])).take (i+1)=((l.map fun n=>[I64 n])).take i++[[I64 x]] by rw [List.take_succ_eq_append_getElem (by rw [hrl];exact hlt)];congr 2;exact (List.getElem?_eq_some_iff.1 hxl).2)] at hput
   have hbl:((((l.map fun n=>[I64 n])).take i).flatten++(List.replicate (l.length - i) [I64 0]).flatten).length=l.length * 1:=by
    rw [List.length_append,flr i hi]
    have:((List.replicate (l.length - i) ([I64 0]:List C)).flatten).length=(l.length - i) * 1:=by simp
    rw [this];omega
   have hbk:∀ c ∈ (((l.map fun n=>[I64 n])).take (i+1)).flatten++(List.replicate (l.length - (i+1)) ([I64 0]:List C)).flatten,kf c=true:=fun c hc=>by
    rcases List.mem_append.1 hc with h1 | h1
    ·obtain ⟨y,hy,h2⟩:=List.mem_flatten.1 h1
     exact hrk y (List.mem_of_mem_take hy) c h2
    ·obtain ⟨y,hy,h2⟩:=List.mem_flatten.1 h1
     rw [List.eq_of_mem_replicate hy] at h2
     exact hzk c h2
   generalize hB1:(((l.map fun n=>[I64 n])).take i).flatten++(List.replicate (l.length - i) ([I64 0]:List C)).flatten=B1 at *
   generalize hB2:(((l.map fun n=>[I64 n])).take (i+1)).flatten++(List.replicate (l.length - (i+1)) ([I64 0]:List C)).flatten=B2 at *
   generalize hRW:(l.map fun n=>[I64 n])=rows at *
   refine drvL Try.func74 ?_
   simp only [go_sem,hrl,hlt,hxl]
   iterate 6 ((try (refine drvZ Try.func74 ?_;simp only [go_sem,hrl,hlt,hxl,hput]));((with_reducible and_intros)<;>try exact sd))
   simp only [putCells,Nat.mul_one,isI] at hput
   refine again (i+1) some [] _ hlt (by omega) ?_
   simp only [go_sem,TmOK,DM,DMs,CM,CMs,forall_eq,exists_eq_left,Mq,HpOK,LowOK,hput,hRW,hB2]
   exact ⟨⟨by simp,CMs.kf hbk⟩,by simp⟩
  ·obtain rfl:i=l.length:=by omega
   have hn:¬ l.length<l.length:=by omega
   have he:(((l.map fun n=>[I64 n])).take l.length).flatten++(List.replicate (l.length - l.length) ([I64 0]:List C)).flatten=((l.map fun n=>[I64 n])).flatten:=by
    rw [List.take_of_length_le (by rw [hrl];exact Nat.le_refl _),Nat.sub_self];simp
   generalize hB1:(((l.map fun n=>[I64 n])).take l.length).flatten++(List.replicate (l.length - l.length) ([I64 0]:List C)).flatten=B1 at *
   generalize hRW:(l.map fun n=>[I64 n])=rows at *
   refine drvL Try.func74 ?_
   simp only [go_sem,hrl,hn]
   iterate 3 ((try (refine drvZ Try.func74 ?_;simp only [go_sem,hrl,hn]));((with_reducible and_intros)<;>try exact sd))
   exact ret _ _ _ _ rfl he rfl
 ·simp only [go_sem,TmOK,DM,DMs,CM,CMs,forall_eq,exists_eq_left,Mq,HpOK,LowOK]
  refine ⟨⟨by simp,?_⟩,by simp⟩
  have e0:([]:List (List C)).flatten++(List.replicate l.length ([I64 0]:List C)).flatten=(List.replicate l.length ([I64 0]:List C)).flatten:=rfl
  exact CMs.kf hbk0
theorem toIntSSOf (l:List (List Int)) (hl:l.length≤1048576) (hc:∀ x ∈ l,DC Try.prog 74 [.c (isI x)] [] (fun r h=>r = .c (isI x)∧h=[])):DC Try.prog 104 [.c (.isl 1 ((l.map fun a=>[isI a])))] [] (fun r h=>r = .c (.isl 1 ((l.map fun a=>[isI a])))∧h=[]):=by
 have hmx:=mx_eq
 have hrl:((l.map fun a=>[isI a])).length=l.length:=by simp [List.length_map]
 have hrw:∀ x ∈ ((l.map fun a=>[isI a])),x.length=1:=fun x hx=>by obtain ⟨e,_,rfl⟩:=List.mem_map.1 hx;rfl
 have hrk:∀ x ∈ ((l.map fun a=>[isI a])),∀ c ∈ x,kf c=true:=fun x hx c hc=>by obtain ⟨e,_,rfl⟩:=List.mem_map.1 hx;simp only [List.mem_singleton] at hc;subst hc;rfl
 have ret:∀ (k n:Nat) (cs:List C) (hp:Hp),hp k=some (some cs)→cs=((l.map fun a=>[isI a])).flatten→n=l.length→RetOb 0 (fun r h=>r = .c (.isl 1 ((l.map fun a=>[isI a])))∧h=[]) (.c (.msl k 1 0 n)) hp:=fun k n cs hp h1 h2 h3=>RetOb.frozen (xs:=(l.map fun a=>[isI a])) ⟨rfl,rfl⟩ (by rw [h1,h2]) (by rw [h3,hrl]) hrw hrk
 generalize hR:(fun (r:D) (h:List (Option (List C)))=>r = .c (.isl 1 ((l.map fun a=>[isI a])))∧h=[])=R at ret ⊢
 clear hR
 have hrx:∀ (i:Nat) x,l[i]? = some x→True:=fun _ _ _=>trivial
 have flr:∀ i,i≤l.length→((((l.map fun a=>[isI a])).take i).flatten).length=i * 1:=fun i hi=>by
  have:=List.length_flatten (L:=((l.map fun a=>[isI a])).take i)
  rw [this,show ((((l.map fun a=>[isI a])).take i).map List.length)=List.replicate i 1 from List.eq_replicate_iff.2 ⟨by simp [hrl];omega,fun b hb=>by obtain ⟨x,hx,rfl⟩:=List.mem_map.1 hb;exact hrw x (List.mem_of_mem_take hx)⟩]
  simp
 have hzk:∀ c ∈ ([C.v (.slice none 0 0)]:List C),kf c=true:=by simp [kf]
 have hbk0:∀ c ∈ (List.replicate l.length ([C.v (.slice none 0 0)]:List C)).flatten,kf c=true:=fun c hc=>by
  obtain ⟨y,hy,h2⟩:=List.mem_flatten.1 hc
  rw [List.eq_of_mem_replicate hy] at h2
  exact hzk c h2
 refine dcZ Try.func104 ?_
 simp only [go_sem,hrl]
 iterate 4 ((try (refine drvZ Try.func104 ?_;simp only [go_sem,hrl]));((with_reducible and_intros)<;>try exact sd))
 refine Go.loopQ (fun i:Nat=>[(0,.c (.isl 1 ((l.map fun a=>[isI a])))),(3,.c (.msl 192 1 0 l.length)),(4,DI .i64 i)]) (fun i=>[(192,some ((((l.map fun a=>[isI a])).take i).flatten++(List.replicate (l.length - i) [C.v (.slice none 0 0)]).flatten))]) 1024 (fun i=>i≤l.length) (fun i=>l.length - i) ?_ 0 some [] _ (by omega) ?_
 ·intro i hi again
  rcases Nat.lt_or_ge i l.length with hlt | hge
  ·obtain ⟨x,hx⟩:∃ x,l[i]? = some x:=⟨l[i],by simp [hlt]⟩
   have hxl:((l.map fun a=>[isI a]))[i]? = some [isI x]:=by rw [List.getElem?_map,hx];rfl
   have hcx:=hc x (List.mem_of_getElem? hx)
   have hput:=put_row (rows:=((l.map fun a=>[isI a])).take i) (zs:=[C.v (.slice none 0 0)]) (ds:=[isI x]) (m:=l.length - (i+1)) (k:=1) (i:=i) rfl rfl (flr i hi)
   rw [show l.length - (i+1)+1=l.length - i by omega,← (show ((l.map fun a=>[isI a])).take (i+1)=((l.map fun a=>[isI a])).take i++[[isI x]] by rw [List.take_succ_eq_append_getElem (by rw [hrl];exact hlt)];congr 2;exact (List.getElem?_eq_some_iff.1 hxl).2)] at hput
   have hbl:((((l.map fun a=>[isI a])).take i).flatten++(List.replicate (l.length - i) [C.v (.slice none 0 0)]).flatten).length=l.length * 1:=by
    rw [List.length_append,flr i hi]
    have:((List.replicate (l.length - i) ([C.v (.slice none 0 0)]:List C)).flatten).length=(l.length - i) * 1:=by simp
    rw [this];omega
   have hbk:∀ c ∈ (((l.map fun a=>[isI a])).take (i+1)).flatten++(List.replicate (l.length - (i+1)) ([C.v (.slice none 0 0)]:List C)).flatten,kf c=true:=fun c hc=>by
    rcases List.mem_append.1 hc with h1 | h1
    ·obtain ⟨y,hy,h2⟩:=List.mem_flatten.1 h1
     exact hrk y (List.mem_of_mem_take hy) c h2
    ·obtain ⟨y,hy,h2⟩:=List.mem_flatten.1 h1
     rw [List.eq_of_mem_replicate hy] at h2
     exact hzk c h2
   generalize hB1:(((l.map fun a=>[isI a])).take i).flatten++(List.replicate (l.length - i) ([C.v (.slice none 0 0)]:List C)).flatten=B1 at *
   generalize hB2:(((l.map fun a=>[isI a])).take (i+1)).flatten++(List.replicate (l.length - (i+1)) ([C.v (.slice none 0 0)]:List C)).flatten=B2 at *
   generalize hRW:(l.map fun a=>[isI a])=rows at *
   refine drvL Try.func104 ?_
   simp only [go_sem,hrl,hlt,hxl]
   iterate 6 ((try (refine drvZ Try.func104 ?_;simp only [go_sem,hrl,hlt,hxl,hput]));((with_reducible and_intros)<;>try exact sd);(try first | refine XK.p hcx ok74 ?_ | refine XK.gp hcx ok74 ?_))
   simp only [putCells,Nat.mul_one,isI] at hput
   refine again (i+1) some [] _ hlt (by omega) ?_
   simp only [go_sem,TmOK,DM,DMs,CM,CMs,forall_eq,exists_eq_left,Mq,HpOK,LowOK,hput,hRW,hB2]
   exact ⟨⟨by simp,CMs.kf hbk⟩,by simp⟩
  ·obtain rfl:i=l.length:=by omega
   have hn:¬ l.length<l.length:=by omega
   have he:(((l.map fun a=>[isI a])).take l.length).flatten++(List.replicate (l.length - l.length) ([C.v (.slice none 0 0)]:List C)).flatten=((l.map fun a=>[isI a])).flatten:=by
    rw [List.take_of_length_le (by rw [hrl];exact Nat.le_refl _),Nat.sub_self];simp
   generalize hB1:(((l.map fun a=>[isI a])).take l.length).flatten++(List.replicate (l.length - l.length) ([C.v (.slice none 0 0)]:List C)).flatten=B1 at *
   generalize hRW:(l.map fun a=>[isI a])=rows at *
   refine drvL Try.func104 ?_
   simp only [go_sem,hrl,hn]
   iterate 3 ((try (refine drvZ Try.func104 ?_;simp only [go_sem,hrl,hn]));((with_reducible and_intros)<;>try exact sd))
   exact ret _ _ _ _ rfl he rfl
 ·simp only [go_sem,TmOK,DM,DMs,CM,CMs,forall_eq,exists_eq_left,Mq,HpOK,LowOK]
  refine ⟨⟨by simp,?_⟩,by simp⟩
  have e0:([]:List (List C)).flatten++(List.replicate l.length ([C.v (.slice none 0 0)]:List C)).flatten=(List.replicate l.length ([C.v (.slice none 0 0)]:List C)).flatten:=rfl
  exact CMs.kf hbk0
theorem toMemoryOf (m:Mm) (hv:DC Try.prog 74 [.c (isI m.vals)] [] (fun r h=>r = .c (isI m.vals)∧h=[])) (ha:DC Try.prog 104 [.c (.isl 1 (m.arrays.map fun a=>[isI a]))] [] (fun r h=>r = .c (.isl 1 (m.arrays.map fun a=>[isI a]))∧h=[])):DC Try.prog 46 [.agg m.cells] [] (fun r h=>r = .agg m.cells∧h=[]):=by
 have hmx:=mx_eq
 obtain ⟨va,arr⟩:=m
 simp only [Mm.cells] at *
 refine dcZ Try.func46 ?_
 simp only [go_sem]
 iterate 10 ((try (refine drvZ Try.func46 ?_;simp only [go_sem]));((with_reducible and_intros)<;>try exact sd);(try first | refine XK.p hv ok74 ?_ | refine XK.gp hv ok74 ?_ | refine XK.p ha ok104 ?_ | refine XK.gp ha ok104 ?_))
 refine RetOb.ofQ (fun _=>none) [] (.agg [isI va,.isl 1 (arr.map fun a=>[isI a])]) [] ?_ ⟨rfl,rfl⟩ (by simp)
 all_goals simp [Pg.cells,Mm.cells,St1.cells,Ex.cells,isI,enumL,DM,DMs,CM,CMs,HpOK,LowOK,hOf,upd,kf]
structure MmN (m : Mm) : Prop where
 nv:m.vals.length≤1048576
 na:m.arrays.length≤1048576
 ar:∀ a ∈ m.arrays,a.length≤1048576
theorem mmN_of {m:Mm} (h:szM m≤1048576):MmN m:=by
 unfold szM at h
 rw [szIL_eq] at h
 have h1:=sum_split List.length m.arrays
 exact ⟨by omega,by omega,fun a ha=>by have:=mem_sum List.length ha;omega⟩
theorem toMemory_c (m:Mm) (hb:MmN m):DC Try.prog 46 [.agg m.cells] [] (fun r h=>r = .agg m.cells∧h=[]) :=
 toMemoryOf m (toIntST m.vals hb.nv) (toIntSSOf m.arrays hb.na fun x hx=>toIntST x (hb.ar x hx))
theorem celX1:Try.prog.cellsOf 3=1:=by kernel_rfl
theorem celX2:Try.prog.cellsOf 22=1:=by kernel_rfl
theorem sh_int {ks:List C} (h:Sh Try.prog 3 ks):∃ n:Int,ks=[I64 n]∧True:=by
 obtain ⟨n,rfl,_⟩:=h.int_of Try.underlying3
 exact ⟨n,rfl,trivial⟩
theorem sh_ints {ks:List C} (h:Sh Try.prog 22 ks):∃ l:List Int,ks=[isI l]∧l.length≤mx:=by
 obtain ⟨l,rfl,hl,_⟩:=h.rows_of (f:=fun n:Int=>[I64 n]) (Q:=fun _=>True) Try.underlying22 fun r hr=>sh_int hr
 exact ⟨l,by rw [celX1];rfl,hl⟩
theorem sh_rows {ks:List C} (h:Sh Try.prog 63 ks):∃ l:List (List Int),ks=[.isl 1 (l.map fun a=>[isI a])]∧l.length≤mx∧∀ a ∈ l,a.length≤mx:=by
 obtain ⟨l,rfl,hl,hq⟩:=h.rows_of (f:=fun a:List Int=>[isI a]) (Q:=fun a=>a.length≤mx) Try.underlying63 fun r hr=>sh_ints hr
 exact ⟨l,by rw [celX2],hl,hq⟩
theorem sh_mem {ks:List C} (h:Sh Try.prog 65 ks):∃ m:Mm,ks=m.cells∧MmB m:=by
 obtain ⟨kss,rfl,hl,hx⟩:=h.st_of Try.underlying65
 match kss,hl,hx with
 | [a,b],_,hx =>
  obtain ⟨va,rfl,h1⟩:=sh_ints (hx 0 _ a rfl rfl)
  obtain ⟨arr,rfl,h2,h3⟩:=sh_rows (hx 1 _ b rfl rfl)
  exact ⟨⟨va,arr⟩,rfl,⟨h1,h2,h3⟩⟩
open CtL (In Cd kindsOf topOf fOK inOK endOK codeOK atC halt)
theorem shapeI0 (op:Int) (h:op<1∨13<op):DC Try.prog 231 [DI .i64 op] [] (fun r h=>r=DS ByteArray.empty∧h=[]):=by
 have hmx:=mx_eq
 have hw:=CtR.within op 1 13
 have hf:(decide (1≤op) && decide (op≤13))=false:=by rw [Bool.and_eq_false_iff];simp;omega
 rw [hf] at hw
 refine dcZ Try.func231 ?_
 simp only [go_sem]
 iterate 4 ((try (refine drvZ Try.func231 ?_;simp only [go_sem]));((with_reducible and_intros)<;>try exact sd);(try first | refine XK.p hw ok119 ?_ | refine XK.gp hw ok119 ?_))
 exact RetOb.plain (d:=DS _) ⟨rfl,rfl⟩ rfl
theorem fieldOkG (c : Cd) (h1 : c.vars.length ≤ mx) (h2 : c.arrays.length ≤ mx) (h3 : c.list.length ≤ mx) (k : Nat) (hk : k ≤ 6) (n : Int) :
 DC Try.prog 233 [.agg (cdC c),.c (.v (.int .u8 (ltr k).toNat)),DI .i64 n] [] (fun r h=>r=DB (fOK c.vars.length c.arrays.length c.list.length k n)∧h=[]):=by
 have hmx:=mx_eq
 have hw:=fun hi=>CtR.within n 0 hi
 have hw4:=CtR.within n 4 10
 obtain ⟨vs,ar,ls⟩:=c
 simp only at h1 h2 h3
 have ret:∀ (b:Bool) (hp:Hp),b=fOK vs.length ar.length ls.length k n→RetOb 0 (fun r h=>r=DB (fOK vs.length ar.length ls.length k n)∧h=[]) (DB b) hp:=fun b hp h=>RetOb.plain (d:=DB _) ⟨by rw [h],rfl⟩ rfl
 generalize hR:(fun (r:D) (h:List (Option (List C)))=>r=DB (fOK vs.length ar.length ls.length k n)∧h=[])=R at ret ⊢
 clear hR
 have key:k=0∨k=1∨k=2∨k=3∨k=4∨k=5∨k=6:=by omega
 unfold cdC
 rcases key with rfl | rfl | rfl | rfl | rfl | rfl | rfl
 ·rw [show (((ltr 0).toNat:Nat):Int)=45 from rfl]
  refine dcZ Try.func233 ?_
  simp only [go_sem]
  iterate 9 ((try (refine drvZ Try.func233 ?_;simp only [go_sem]));((with_reducible and_intros)<;>try exact sd))
  refine ret _ _ ?_
  rw [Bool.eq_iff_iff];simp [fOK,topOf];omega
 ·rw [show (((ltr 1).toNat:Nat):Int)=114 from rfl]
  have hw:=hw (13)
  generalize hB:(decide (0≤n) && decide (n≤13))=B at hw
  refine dcZ Try.func233 ?_
  simp only [go_sem]
  iterate 10 ((try (refine drvZ Try.func233 ?_;simp only [go_sem,Int.reduceLE,List.length_map]));((with_reducible and_intros)<;>try exact sd);(try first | refine XK.p hw ok119 ?_ | refine XK.gp hw ok119 ?_))
  exact ret _ _ (by rw [← hB];simp [fOK,topOf])
 ·rw [show (((ltr 2).toNat:Nat):Int)=110 from rfl]
  have hw:=hw (255)
  generalize hB:(decide (0≤n) && decide (n≤255))=B at hw
  refine dcZ Try.func233 ?_
  simp only [go_sem]
  iterate 10 ((try (refine drvZ Try.func233 ?_;simp only [go_sem,Int.reduceLE,List.length_map]));((with_reducible and_intros)<;>try exact sd);(try first | refine XK.p hw ok119 ?_ | refine XK.gp hw ok119 ?_))
  exact ret _ _ (by rw [← hB];simp [fOK,topOf])
 ·rw [show (((ltr 3).toNat:Nat):Int)=118 from rfl]
  have hw:=hw ((vs.length:Int) - 1)
  generalize hB:(decide (0≤n) && decide (n≤(vs.length:Int) - 1))=B at hw
  refine dcZ Try.func233 ?_
  simp only [go_sem]
  iterate 10 ((try (refine drvZ Try.func233 ?_;simp only [go_sem,Int.reduceLE,List.length_map]));((with_reducible and_intros)<;>try exact sd);(try first | refine XK.p hw ok119 ?_ | refine XK.gp hw ok119 ?_))
  exact ret _ _ (by rw [← hB];simp [fOK,topOf])
 ·rw [show (((ltr 4).toNat:Nat):Int)=97 from rfl]
  have hw:=hw ((ar.length:Int) - 1)
  generalize hB:(decide (0≤n) && decide (n≤(ar.length:Int) - 1))=B at hw
  refine dcZ Try.func233 ?_
  simp only [go_sem]
  iterate 10 ((try (refine drvZ Try.func233 ?_;simp only [go_sem,Int.reduceLE,List.length_map]));((with_reducible and_intros)<;>try exact sd);(try first | refine XK.p hw ok119 ?_ | refine XK.gp hw ok119 ?_))
  exact ret _ _ (by rw [← hB];simp [fOK,topOf])
 ·rw [show (((ltr 5).toNat:Nat):Int)=111 from rfl]
  have hw:=hw4
  generalize hB:(decide (4≤n) && decide (n≤10))=B at hw
  refine dcZ Try.func233 ?_
  simp only [go_sem]
  iterate 10 ((try (refine drvZ Try.func233 ?_;simp only [go_sem,Int.reduceLE,List.length_map]));((with_reducible and_intros)<;>try exact sd);(try first | refine XK.p hw ok119 ?_ | refine XK.gp hw ok119 ?_))
  exact ret _ _ (by rw [← hB];simp [fOK,topOf])
 ·rw [show (((ltr 6).toNat:Nat):Int)=105 from rfl]
  have hw:=hw ((ls.length:Int) - 1)
  generalize hB:(decide (0≤n) && decide (n≤(ls.length:Int) - 1))=B at hw
  refine dcZ Try.func233 ?_
  simp only [go_sem]
  iterate 10 ((try (refine drvZ Try.func233 ?_;simp only [go_sem,Int.reduceLE,List.length_map]));((with_reducible and_intros)<;>try exact sd);(try first | refine XK.p hw ok119 ?_ | refine XK.gp hw ok119 ?_))
  exact ret _ _ (by rw [← hB];simp [fOK,topOf])
theorem instrOkG (c : Cd) (h1 : c.vars.length ≤ mx) (h2 : c.arrays.length ≤ mx) (h3 : c.list.length ≤ mx) (x : In) :
 DC Try.prog 220 [.agg (cdC c),.agg (inX x)] [] (fun r h=>r=DB (inOK c.vars.length c.arrays.length c.list.length x)∧h=[]):=by
 have hmx:=mx_eq
 have hf:=fun k hk n=>fieldOkG c h1 h2 h3 k hk n
 have hfi:=fieldsI x
 have ret:∀ (b:Bool) (hp:Hp),b=inOK c.vars.length c.arrays.length c.list.length x→RetOb 0 (fun r h=>r=DB (inOK c.vars.length c.arrays.length c.list.length x)∧h=[]) (DB b) hp:=fun b hp h=>RetOb.plain (d:=DB _) ⟨by rw [h],rfl⟩ rfl
 generalize hR:(fun (r:D) (h:List (Option (List C)))=>r=DB (inOK c.vars.length c.arrays.length c.list.length x)∧h=[])=R at ret ⊢
 clear hR
 obtain ⟨op,a,b,c',d⟩:=x
 have hcx:cdC c=[isI c.vars,isI c.arrays,.isl 5 (c.list.map inX)]:=rfl
 have hlx:inX ⟨op,a,b,c',d⟩=[I64 op,I64 a,I64 b,I64 c',I64 d]:=rfl
 rw [hlx] at hfi ⊢
 simp only [hcx] at hf ⊢
 simp only at hfi
 generalize hLI:c.list.map inX=LI at *
 by_cases ho:op<1∨13<op
 ·have hsh:=shapeI0 op ho
  have hret:false=inOK c.vars.length c.arrays.length c.list.length ⟨op,a,b,c',d⟩:=by
   have hf0:(decide (1≤op) && decide (op≤13))=false:=by rw [Bool.and_eq_false_iff];simp;omega
   simp [inOK,hf0]
  have ret:=fun hp=>ret false hp hret
  have hse:(ByteArray.empty.toList == (ByteArray.toList { data:=#[] }))=true:=by simp [toList_nil]
  have hx0:([[I64 a],[I64 b],[I64 c'],[I64 d]]:List (List C))[0]? = some [I64 a]:=rfl
  refine dcZ Try.func220 ?_
  simp only [go_sem]
  iterate 5 ((try (refine drvZ Try.func220 ?_;simp only [go_sem]));((with_reducible and_intros)<;>try exact sd);(try first | refine XK.p hsh ok231 ?_ | refine XK.gp hsh ok231 ?_ | refine XK.p hfi ok232 ?_ | refine XK.gp hfi ok232 ?_))
  refine Go.loop ?_
  refine drvL Try.func220 ?_
  simp only [go_sem,hx0,hse]
  iterate 6 ((try (refine drvZ Try.func220 ?_;simp only [go_sem,hx0,hse]));((with_reducible and_intros)<;>try exact sd);(try first | refine XK.gs (DB false) ?_))
  exact ret _
 have o1:1≤op:=by omega
 have o2:op≤13:=by omega
 have hsh:=shapeI op ⟨o1,o2⟩
 have hin:inOK c.vars.length c.arrays.length c.list.length ⟨op,a,b,c',d⟩=(fOK c.vars.length c.arrays.length c.list.length ((kindsOf op).getD 0 0) a && fOK c.vars.length c.arrays.length c.list.length ((kindsOf op).getD 1 0) b && fOK c.vars.length c.arrays.length c.list.length ((kindsOf op).getD 2 0) c' && fOK c.vars.length c.arrays.length c.list.length ((kindsOf op).getD 3 0) d):=by
  unfold inOK
  rw [show decide (1≤op)=true by simp;omega,show decide (op≤13)=true by simp;omega]
  rfl
 rw [hin] at ret
 have retF:∀ (i:Nat) (hp:Hp),i<4→fOK c.vars.length c.arrays.length c.list.length ((kindsOf op).getD i 0) ([a,b,c',d].getD i 0)=false→RetOb 0 R (DB false) hp:=fun i hp hi h=>by
  refine ret _ _ ?_
  have:i=0∨i=1∨i=2∨i=3:=by omega
  rcases this with rfl | rfl | rfl | rfl
  ·rw [show fOK c.vars.length c.arrays.length c.list.length ((kindsOf op).getD 0 0) a=false from h];simp only [Bool.and_false,Bool.false_and]
  ·rw [show fOK c.vars.length c.arrays.length c.list.length ((kindsOf op).getD 1 0) b=false from h];simp only [Bool.and_false,Bool.false_and]
  ·rw [show fOK c.vars.length c.arrays.length c.list.length ((kindsOf op).getD 2 0) c'=false from h];simp only [Bool.and_false,Bool.false_and]
  ·rw [show fOK c.vars.length c.arrays.length c.list.length ((kindsOf op).getD 3 0) d=false from h];simp only [Bool.and_false]
 have retT:∀ (hp:Hp),(∀ i:Nat,i<4→fOK c.vars.length c.arrays.length c.list.length ((kindsOf op).getD i 0) ([a,b,c',d].getD i 0)=true)→RetOb 0 R (DB true) hp:=fun hp h=>by
  refine ret _ _ ?_
  rw [show fOK c.vars.length c.arrays.length c.list.length ((kindsOf op).getD 0 0) a=true from h 0 (by omega),show fOK c.vars.length c.arrays.length c.list.length ((kindsOf op).getD 1 0) b=true from h 1 (by omega),show fOK c.vars.length c.arrays.length c.list.length ((kindsOf op).getD 2 0) c'=true from h 2 (by omega),show fOK c.vars.length c.arrays.length c.list.length ((kindsOf op).getD 3 0) d=true from h 3 (by omega)];rfl
 clear ret hin
 have hsz:(shp op).size=4:=rfl
 have hse:((shp op).toList == (ByteArray.toList { data:=#[] }))=false:=shp_ne op ⟨o1,o2⟩
 refine dcZ Try.func220 ?_
 simp only [go_sem]
 iterate 5 ((try (refine drvZ Try.func220 ?_;simp only [go_sem]));((with_reducible and_intros)<;>try exact sd);(try first | refine XK.p hsh ok231 ?_ | refine XK.gp hsh ok231 ?_ | refine XK.p hfi ok232 ?_ | refine XK.gp hfi ok232 ?_))
 refine Go.loopQ (fun i : Nat => [(2, .c (.ptr 0 0)), (5, DS (shp op)), (12, .c (.isl 1 [[I64 a], [I64 b], [I64 c'], [I64 d]])), (13, DI .i64 4), (14, DI .i64 i)]) (fun _ => [(0, some [isI c.vars, isI c.arrays, .isl 5 LI])])
  4096 (fun i=>i≤4∧∀ j:Nat,j<i→fOK c.vars.length c.arrays.length c.list.length ((kindsOf op).getD j 0) ([a,b,c',d].getD j 0)=true) (fun i=>4 - i) ?_ 0 some [] _ ⟨by omega,fun j hj=>by omega⟩ ?_
 ·rintro i ⟨hi,hI⟩ again
  rcases Nat.lt_or_ge i 4 with hlt | hge
  ·have hx:[[I64 a],[I64 b],[I64 c'],[I64 d]][i]? = some [I64 ([a,b,c',d].getD i 0)]:=by
    have:i=0∨i=1∨i=2∨i=3:=by omega
    rcases this with rfl | rfl | rfl | rfl<;>rfl
   have hc:=hf _ (kinds_le op i) ([a,b,c',d].getD i 0)
   have hat:=shp_at op i hlt
   have hlt':(i:Int)<4:=by omega
   have retF:=fun hp=>retF i hp hlt
   have hst:∀ q:fOK c.vars.length c.arrays.length c.list.length ((kindsOf op).getD i 0) ([a,b,c',d].getD i 0)=true,i+1≤4∧∀ j:Nat,j<i+1→fOK c.vars.length c.arrays.length c.list.length ((kindsOf op).getD j 0) ([a,b,c',d].getD j 0)=true:=fun q=>⟨hlt,fun j hj=>by
    by_cases e:j=i
    ·subst e;exact q
    ·exact hI j (by omega)⟩
   generalize [a,b,c',d].getD i 0=n at *
   generalize (kindsOf op).getD i 0=k at *
   generalize [[I64 a],[I64 b],[I64 c'],[I64 d]]=fl at *
   generalize shp op=sp at *
   cases hq:fOK c.vars.length c.arrays.length c.list.length k n with
   | true =>
    rw [hq] at hc
    have hs:=hst hq
    refine drvL Try.func220 ?_
    simp only [go_sem,hlt']
    iterate 5 ((try (refine drvZ Try.func220 ?_;simp only [go_sem,hx,hlt',hat,hsz,hse]));((with_reducible and_intros)<;>try exact sd);(try first | refine XK.p hc ok233 ?_ | refine XK.gp hc ok233 ?_))
    refine again (i+1) some [] _ hs (by omega) ?_
    simp only [go_sem,TmOK,DM,DMs,CM,CMs,forall_eq,exists_eq_left,Mq,HpOK,LowOK]
    try simp
   | false =>
    rw [hq] at hc
    refine drvL Try.func220 ?_
    simp only [go_sem,hlt']
    iterate 5 ((try (refine drvZ Try.func220 ?_;simp only [go_sem,hx,hlt',hat,hsz,hse]));((with_reducible and_intros)<;>try exact sd);(try first | refine XK.p hc ok233 ?_ | refine XK.gp hc ok233 ?_))
    exact retF _ hq
  ·obtain rfl:i=4:=by omega
   have h44:(((4:Nat):Int)<4)=False:=eq_false (by decide)
   refine drvL Try.func220 ?_
   simp only [go_sem,h44]
   iterate 3 ((try (refine drvZ Try.func220 ?_;simp only [go_sem,h44]));((with_reducible and_intros)<;>try exact sd))
   exact retT _ hI
 ·simp only [go_sem,TmOK,DM,DMs,CM,CMs,forall_eq,exists_eq_left,Mq,HpOK,LowOK]
  simp
  try exact fun a _=>rfl
end Go.Proofs.Ytddanjifhdaebaa.CtD
