/- Contracts of functions of the program, one behind the other, as plain data: what each call returns and which blocks it leaves. -/
import Derived.Test.YtddanjifhdaebaaHFacts
import Derived.Test.YtddanjifhdaebaaHAk
import Derived.Test.YtddanjifhdaebaaHAn
import Derived.Test.YtddanjifhdaebaaHAr
import Derived.Test.YtddanjifhdaebaaHAt
import Derived.Test.YtddanjifhdaebaaHAv
import Derived.Test.YtddanjifhdaebaaHAm
import Derived.Test.YtddanjifhdaebaaHAo
import Derived.Test.YtddanjifhdaebaaHAs
import Derived.Test.YtddanjifhdaebaaHAu
set_option linter.unusedVariables false
set_option linter.unusedSimpArgs false
set_option linter.unusedSectionVars false
set_option maxHeartbeats 16000000
set_option maxRecDepth 100000
namespace Go.Proofs.Ytddanjifhdaebaa.CtD
open Go Go.CT CtF CtR
variable [Yn]
def mkA (k:Int) (n:Nat):List (List Int):=(List.range n).map fun (i:Nat)=>mkI (k+4 * (i:Int)) 4
theorem mkA_len (k:Int) (n:Nat):(mkA k n).length=n:=by simp [mkA]
theorem mkA_4 {k:Int} {n:Nat}:∀ a ∈ mkA k n,a.length=4:=fun a h=>by obtain ⟨i,_,rfl⟩:=List.mem_map.1 h;exact mkI_len _ _
def mkM (k:Int) (nv na:Nat):Mm:=⟨mkI k nv,mkA (k+(nv:Nat)) na⟩
theorem markIntSS0 (k:Int) (hk:0≤k) (hb:k≤1099511627776):DC Try.prog 106 [.c (.msl 0 1 0 0),DI .i64 k] [some [],some [],some []] (fun r h=>r=DI .i64 k∧h=[some [],some [],some []]):=by
 have ret:∀ (hp:Hp),hp 0=some (some [])→hp 1=some (some [])→hp 2=some (some [])→RetOb 3 (fun r h=>r=DI .i64 k∧h=[some [],some [],some []]) (DI .i64 k) hp:=fun hp h1 h2 h3=>by
  refine RetOb.ofQ (fun j=>if j≤2 then some j else none) [] _ [some [],some [],some []] ?_ ⟨rfl,rfl⟩ (by simp)
  simp [enumL,DM,DMs,CM,CMs,HpOK,LowOK,hOf,upd,h1,h2,h3]
 generalize hR:(fun (r:D) (h:List (Option (List C)))=>r=DI .i64 k∧h=[some [],some [],some []])=R at ret ⊢
 clear hR
 refine dcZ Try.func106 ?_
 simp only [go_sem]
 iterate 3 ((try (refine drvZ Try.func106 ?_;simp only [go_sem]));((with_reducible and_intros)<;>try exact sd))
 refine Go.loopQ (fun i:Nat=>[(0,.c (.msl 0 1 0 0)),(1,DI .i64 k),(5,DI .i64 0)]) (fun i=>[(0,some []),(1,some []),(2,some [])]) 1024 (fun i=>i≤0) (fun i=>0 - i) ?_ 0 some [] _ (by omega) ?_
 ·intro i hi again
  refine drvL Try.func106 ?_
  simp only [go_sem]
  iterate 3 ((try (refine drvZ Try.func106 ?_;simp only [go_sem]));((with_reducible and_intros)<;>try exact sd))
  exact ret _ rfl rfl rfl
 ·simp only [go_sem,TmOK,DM,DMs,CM,CMs,forall_eq,exists_eq_left,Mq,HpOK,LowOK]
  all_goals simp
theorem markIntSS1 (a:List Int) (ha:a.length=4) (k:Int) (hk:0≤k) (hb:k+4≤1099511627776):DC Try.prog 106 [.c (.msl 0 1 0 1),DI .i64 k] [some [.msl 1 1 0 4],some (a.map I64),some []] (fun r h=>r=DI .i64 (k+4)∧h=[some [.msl 1 1 0 4],some ((mkI k 4).map I64),some []]):=by
 have ret:∀ (hp:Hp) (v:Int) (L:List Int),v=k+4→L=mkI k 4→hp 0=some (some [.msl 1 1 0 4])→hp 1=some (some (L.map I64))→hp 2=some (some [])→RetOb 3 (fun r h=>r=DI .i64 (k+4)∧h=[some [.msl 1 1 0 4],some ((mkI k 4).map I64),some []]) (DI .i64 v) hp:=fun hp v L e1 e2 h1 h2 h3=>by
  subst e1 e2
  refine RetOb.ofQ (fun j=>if j≤2 then some j else none) [] _ [some [.msl 1 1 0 4],some ((mkI k 4).map I64),some []] ?_ ⟨rfl,rfl⟩ (by simp)
  simp [enumL,DM,DMs,CM,CMs,HpOK,LowOK,hOf,upd,h1,h2,h3,CMs_I]
 generalize hR:(fun (r:D) (h:List (Option (List C)))=>r=DI .i64 (k+4)∧h=[some [.msl 1 1 0 4],some ((mkI k 4).map I64),some []])=R at ret ⊢
 clear hR
 obtain ⟨A,hA0,hA1⟩:∃ A:Nat→List Int,A 0=a∧A 1=mkI k 4:=⟨fun i=>if i=0 then a else mkI k 4,by simp⟩
 obtain ⟨K,hK0,hK1⟩:∃ K:Nat→Int,K 0=k∧K 1=k+4:=⟨fun i=>k+4 * (i:Int),by simp⟩
 rw [← hA0] at ha ⊢
 refine dcZ Try.func106 ?_
 simp only [go_sem]
 iterate 3 ((try (refine drvZ Try.func106 ?_;simp only [go_sem]));((with_reducible and_intros)<;>try exact sd))
 refine Go.loopQ (fun i:Nat=>[(0,.c (.msl 0 1 0 1)),(1,DI .i64 (K i)),(5,DI .i64 i)]) (fun i=>[(0,some [.msl 1 1 0 4]),(1,some ((A i).map I64)),(2,some [])]) 1024 (fun i=>i≤1) (fun i=>1 - i) ?_ 0 some [] _ (by omega) ?_
 ·intro i hi again
  obtain rfl | rfl:i=0∨i=1:=by omega
  ·have hc:=markIntSO (A 0) (K 0) (by omega) (by rw [ha];omega)
   rw [ha] at hc
   simp only [intsC] at hc
   refine drvL Try.func106 ?_
   simp only [go_sem]
   iterate 4 ((try (refine drvZ Try.func106 ?_;simp only [go_sem]));((with_reducible and_intros)<;>try exact sd))
   refine XK.callG [1] hc ok51 (hhpG (by simp [HH,hOf,upd,I_ren])) (hbT ()) (fun d h' ⟨_,e⟩=>by subst e;simp) ?_
   rintro _ _ ⟨rfl,rfl⟩ _
   iterate 4 ((try (refine drvZ Try.func106 ?_;simp only [go_sem,I_ren]));((with_reducible and_intros)<;>try exact sd))
   refine again 1 some [] _ (by omega) (by omega) ?_
   simp only [go_sem,TmOK,DM,DMs,CM,CMs,forall_eq,exists_eq_left,Mq,HpOK,LowOK,I_ren]
   simp [CMs_I,hK0,hK1,hA0,hA1]
  ·refine drvL Try.func106 ?_
   simp only [go_sem]
   iterate 3 ((try (refine drvZ Try.func106 ?_;simp only [go_sem]));((with_reducible and_intros)<;>try exact sd))
   exact ret _ _ _ hK1 hA1 rfl rfl rfl
 ·simp only [go_sem,TmOK,DM,DMs,CM,CMs,forall_eq,exists_eq_left,Mq,HpOK,LowOK]
  simp [CMs_I,hK0]
theorem markIntSS2 (a b:List Int) (ha:a.length=4) (hb4:b.length=4) (k:Int) (hk:0≤k) (hb:k+8≤1099511627776):DC Try.prog 106 [.c (.msl 0 1 0 2),DI .i64 k] [some [.msl 1 1 0 4,.msl 2 1 0 4],some (a.map I64),some (b.map I64)] (fun r h=>r=DI .i64 (k+8)∧h=[some [.msl 1 1 0 4,.msl 2 1 0 4],some ((mkI k 4).map I64),some ((mkI (k+4) 4).map I64)]):=by
 have ret:∀ (hp:Hp) (v:Int) (L L':List Int),v=k+8→L=mkI k 4→L'=mkI (k+4) 4→hp 0=some (some [.msl 1 1 0 4,.msl 2 1 0 4])→hp 1=some (some (L.map I64))→hp 2=some (some (L'.map I64))→RetOb 3 (fun r h=>r=DI .i64 (k+8)∧h=[some [.msl 1 1 0 4,.msl 2 1 0 4],some ((mkI k 4).map I64),some ((mkI (k+4) 4).map I64)]) (DI .i64 v) hp:=fun hp v L L' e1 e2 e3 h1 h2 h3=>by
  subst e1 e2 e3
  refine RetOb.ofQ (fun j=>if j≤2 then some j else none) [] _ [some [.msl 1 1 0 4,.msl 2 1 0 4],some ((mkI k 4).map I64),some ((mkI (k+4) 4).map I64)] ?_ ⟨rfl,rfl⟩ (by simp)
  simp [enumL,DM,DMs,CM,CMs,HpOK,LowOK,hOf,upd,h1,h2,h3,CMs_I]
 generalize hR:(fun (r:D) (h:List (Option (List C)))=>r=DI .i64 (k+8)∧h=[some [.msl 1 1 0 4,.msl 2 1 0 4],some ((mkI k 4).map I64),some ((mkI (k+4) 4).map I64)])=R at ret ⊢
 clear hR
 obtain ⟨A,hA0,hA1,hA2⟩:∃ A:Nat→List Int,A 0=a∧A 1=mkI k 4∧A 2=mkI k 4:=⟨fun i=>if i=0 then a else mkI k 4,by simp⟩
 obtain ⟨B,hB0,hB1,hB2⟩:∃ B:Nat→List Int,B 0=b∧B 1=b∧B 2=mkI (k+4) 4:=⟨fun i=>if i=2 then mkI (k+4) 4 else b,by simp⟩
 obtain ⟨K,hK0,hK1,hK2⟩:∃ K:Nat→Int,K 0=k∧K 1=k+4∧K 2=k+8:=⟨fun i=>k+4 * (i:Int),by simp⟩
 rw [← hA0] at ha ⊢
 rw [← hB1] at hb4
 rw [← hB0]
 refine dcZ Try.func106 ?_
 simp only [go_sem]
 iterate 3 ((try (refine drvZ Try.func106 ?_;simp only [go_sem]));((with_reducible and_intros)<;>try exact sd))
 refine Go.loopQ (fun i:Nat=>[(0,.c (.msl 0 1 0 2)),(1,DI .i64 (K i)),(5,DI .i64 i)]) (fun i=>[(0,some [.msl 1 1 0 4,.msl 2 1 0 4]),(1,some ((A i).map I64)),(2,some ((B i).map I64))]) 1024 (fun i=>i≤2) (fun i=>2 - i) ?_ 0 some [] _ (by omega) ?_
 ·intro i hi again
  obtain rfl | rfl | rfl:i=0∨i=1∨i=2:=by omega
  ·have hc:=markIntSO (A 0) (K 0) (by omega) (by rw [ha];omega)
   rw [ha] at hc
   simp only [intsC] at hc
   refine drvL Try.func106 ?_
   simp only [go_sem]
   iterate 4 ((try (refine drvZ Try.func106 ?_;simp only [go_sem]));((with_reducible and_intros)<;>try exact sd))
   refine XK.callG [1] hc ok51 (hhpG (by simp [HH,hOf,upd,I_ren])) (hbT ()) (fun d h' ⟨_,e⟩=>by subst e;simp) ?_
   rintro _ _ ⟨rfl,rfl⟩ _
   iterate 4 ((try (refine drvZ Try.func106 ?_;simp only [go_sem,I_ren]));((with_reducible and_intros)<;>try exact sd))
   refine again 1 some [] _ (by omega) (by omega) ?_
   simp only [go_sem,TmOK,DM,DMs,CM,CMs,forall_eq,exists_eq_left,Mq,HpOK,LowOK,I_ren]
   simp [CMs_I,hK0,hK1,hA0,hA1,hB0,hB1]
  ·have hc:=markIntSO (B 1) (K 1) (by omega) (by rw [hb4];omega)
   rw [hb4] at hc
   simp only [intsC] at hc
   refine drvL Try.func106 ?_
   simp only [go_sem]
   iterate 4 ((try (refine drvZ Try.func106 ?_;simp only [go_sem]));((with_reducible and_intros)<;>try exact sd))
   refine XK.callG [2] hc ok51 (hhpG (by simp [HH,hOf,upd,I_ren])) (hbT ()) (fun d h' ⟨_,e⟩=>by subst e;simp) ?_
   rintro _ _ ⟨rfl,rfl⟩ _
   iterate 4 ((try (refine drvZ Try.func106 ?_;simp only [go_sem,I_ren]));((with_reducible and_intros)<;>try exact sd))
   refine again 2 some [] _ (by omega) (by omega) ?_
   simp only [go_sem,TmOK,DM,DMs,CM,CMs,forall_eq,exists_eq_left,Mq,HpOK,LowOK,I_ren]
   simp [CMs_I,hK1,hK2,hA1,hA2,hB1,hB2,Int.add_assoc]
  ·refine drvL Try.func106 ?_
   simp only [go_sem]
   iterate 3 ((try (refine drvZ Try.func106 ?_;simp only [go_sem]));((with_reducible and_intros)<;>try exact sd))
   exact ret _ _ _ _ hK2 hA2 hB2 rfl rfl rfl
 ·simp only [go_sem,TmOK,DM,DMs,CM,CMs,forall_eq,exists_eq_left,Mq,HpOK,LowOK]
  simp [CMs_I,hK0]
theorem markIntSSO (arr : List (List Int)) (h2 : arr.length ≤ 2) (h4 : ∀ a ∈ arr, a.length = 4) (k : Int) (hk : 0 ≤ k) (hb : k + 8 ≤ 1099511627776) : DC Try.prog 106 [.c (.msl 0 1 0 arr.length), DI .i64 k] [some (hdr 1 2 arr.length), some (blk0 arr), some (blk1 arr)]
 (fun r h=>r=DI .i64 (k+4 * (arr.length:Nat))∧h=[some (hdr 1 2 arr.length),some (blk0 (mkA k arr.length)),some (blk1 (mkA k arr.length))]):=by
 match arr,h2,h4 with
 | [],_,_=>simpa [hdr,blk0,blk1,mkA] using markIntSS0 k hk (by omega)
 | [a],_,h4=>simpa [hdr,blk0,blk1,mkA,List.range_succ] using markIntSS1 a (h4 a (by simp)) k hk (by omega)
 | [a,b],_,h4=>simpa [hdr,blk0,blk1,mkA,List.range_succ] using markIntSS2 a b (h4 a (by simp)) (h4 b (by simp)) k hk hb
theorem markMemoryO (m : Mm) (nv na : Nat) (hv : m.vals.length = nv) (ha : m.arrays.length = na) (hv2 : nv ≤ 1048576) (h2 : na ≤ 2) (h4 : ∀ a ∈ m.arrays, a.length = 4) (k : Int) (hk : 0 ≤ k) (hb : k ≤ 1048576) :
 DC Try.prog 50 [.agg [.msl 0 1 0 nv,.msl 1 1 0 na],DI .i64 k] [some (m.vals.map I64),some (hdr 2 3 na),some (blk0 m.arrays),some (blk1 m.arrays)]
 (fun r h=>r=DI .i64 (k+(nv:Nat)+4 * (na:Nat))∧h=[some ((mkM k nv na).vals.map I64),some (hdr 2 3 na),some (blk0 (mkM k nv na).arrays),some (blk1 (mkM k nv na).arrays)]):=by
 obtain ⟨va,arr⟩:=m
 simp only at hv ha h4 ⊢
 have ret:∀ (hp:Hp),hp 0=some (some ((mkI k nv).map I64))→hp 1=some (some (hdr 2 3 na))→hp 2=some (some (blk0 (mkA (k+(nv:Nat)) na)))→hp 3=some (some (blk1 (mkA (k+(nv:Nat)) na)))→RetOb 4 (fun r h=>r=DI .i64 (k+(nv:Nat)+4 * (na:Nat))∧h=[some ((mkM k nv na).vals.map I64),some (hdr 2 3 na),some (blk0 (mkM k nv na).arrays),some (blk1 (mkM k nv na).arrays)]) (DI .i64 (k+(nv:Nat)+4 * (na:Nat))) hp:=fun hp h0 h1 h2 h3=>by
  unfold mkM
  refine RetOb.ofQ (fun j=>if j≤3 then some j else none) [] _ [some ((mkI k nv).map I64),some (hdr 2 3 na),some (blk0 (mkA (k+(nv:Nat)) na)),some (blk1 (mkA (k+(nv:Nat)) na))] ?_ ⟨rfl,rfl⟩ (by simp)
  simp [enumL,DM,DMs,CM,CMs,HpOK,LowOK,hOf,upd,h0,h1,h2,h3,CMs_I,CMs_b0,CMs_b1,CMs_hdr]
 generalize hR:(fun (r:D) (h:List (Option (List C)))=>r=DI .i64 (k+(nv:Nat)+4 * (na:Nat))∧h=[some ((mkM k nv na).vals.map I64),some (hdr 2 3 na),some (blk0 (mkM k nv na).arrays),some (blk1 (mkM k nv na).arrays)])=R at ret ⊢
 clear hR
 have c1:=markIntSO va k hk (by omega)
 have c2:=markIntSSO arr (by omega) h4 (k+(nv:Nat)) (by omega) (by omega)
 simp only [intsC,hv,ha] at c1 c2
 refine dcZ Try.func50 ?_
 simp only [go_sem]
 iterate 4 ((try (refine drvZ Try.func50 ?_;simp only [go_sem]));((with_reducible and_intros)<;>try exact sd))
 refine XK.callG [0] c1 ok51 (hhpG (by simp [HH,hOf,hpL,upd,I_ren])) (hbT ()) (fun d h' ⟨_,e⟩=>by subst e;simp) ?_
 rintro _ _ ⟨rfl,rfl⟩ _
 iterate 4 ((try (refine drvZ Try.func50 ?_;simp only [go_sem,I_ren]));((with_reducible and_intros)<;>try exact sd))
 refine XK.callG [1,2,3] c2 ok106 (hhpG (by simp [HH,hOf,hpL,upd,I_ren,renCs_hdr,renCs_b0,renCs_b1,rk0])) (hbT ()) (fun d h' ⟨_,e⟩=>by subst e;simp) ?_
 rintro _ _ ⟨rfl,rfl⟩ _
 iterate 4 ((try (refine drvZ Try.func50 ?_;simp only [go_sem,I_ren,renCs_hdr,renCs_b0,renCs_b1]));((with_reducible and_intros)<;>try exact sd))
 exact ret _ rfl rfl rfl rfl
theorem heldIntSSP (k:Int) (n:Nat) (hk:0≤k) (hn:n≤2) (hb:k≤104857600):DC Try.prog 127 [.c (.isl 1 ((mkA k n).map fun a=>[isI a])),DI .i64 k] [] (fun r h=>r=DI .i64 (k+4 * (n:Nat))∧h=[]):=by
 have hmx:=mx_eq
 have ret:∀ (v:Int) (hp:Hp),v=k+4 * (n:Nat)→RetOb 0 (fun r h=>r=DI .i64 (k+4 * (n:Nat))∧h=[]) (DI .i64 v) hp:=fun v hp h=>by subst h;exact RetOb.plain ⟨rfl,rfl⟩ rfl
 generalize hR:(fun (r:D) (h:List (Option (List C)))=>r=DI .i64 (k+4 * (n:Nat))∧h=[])=R at ret ⊢
 clear hR
 have hrl:((mkA k n).map fun a=>[isI a]).length=n:=by simp [mkA_len]
 refine dcZ Try.func127 ?_
 simp only [go_sem,hrl]
 iterate 3 ((try (refine drvZ Try.func127 ?_;simp only [go_sem,hrl]));((with_reducible and_intros)<;>try exact sd))
 refine Go.loopQ (fun i:Nat=>[(0,.c (.isl 1 ((mkA k n).map fun a=>[isI a]))),(1,DI .i64 (k+4 * (i:Int))),(5,DI .i64 i)]) (fun _=>[]) 1024 (fun i=>i≤n) (fun i=>n - i) ?_ 0 some [] _ (by omega) ?_
 ·intro i hi again
  rcases Nat.lt_or_ge i n with hlt | hge
  ·have hxl:((mkA k n).map fun a=>[isI a])[i]? = some [isI (mkI (k+4 * (i:Int)) 4)]:=by simp [mkA,hlt]
   have h3:(k+4 * (i:Int)+4<0)=False:=eq_false (by omega)
   have h5:(k+4 * (i:Int)+((4:Nat):Int)<0)=False:=eq_false (by omega)
   have hcx:=heldIntSP (k+4 * (i:Int)) 4 (by omega) (by omega) (by omega)
   generalize ((mkA k n).map fun a=>[isI a])=rows at *
   unfold isI at hxl
   refine drvL Try.func127 ?_
   simp only [go_sem,hrl,hlt,hxl,h3,h5]
   iterate 6 ((try (refine drvZ Try.func127 ?_;simp only [go_sem,hrl,hlt,hxl,h3,h5]));((with_reducible and_intros)<;>try exact sd);(try first | refine XK.p hcx ok52 ?_ | refine XK.gp hcx ok52 ?_))
   refine again (i+1) some [] _ hlt (by omega) ?_
   simp only [go_sem,TmOK,DM,DMs,CM,CMs,forall_eq,exists_eq_left,Mq,HpOK,LowOK]
   simp
   omega
  ·obtain rfl:n=i:=by omega
   have hnn:¬ n<n:=by omega
   generalize ((mkA k n).map fun a=>[isI a])=rows at *
   refine drvL Try.func127 ?_
   simp only [go_sem,hrl,hnn]
   iterate 3 ((try (refine drvZ Try.func127 ?_;simp only [go_sem,hrl,hnn]));((with_reducible and_intros)<;>try exact sd))
   exact ret _ _ rfl
 ·simp only [go_sem,TmOK,DM,DMs,CM,CMs,forall_eq,exists_eq_left,Mq,HpOK,LowOK]
  all_goals simp
theorem heldMemoryP (k:Int) (nv na:Nat) (hk:0≤k) (hb:k≤1048576) (hv:nv≤1048576) (h2:na≤2):DC Try.prog 64 [.agg (Mm.cells (mkM k nv na)),DI .i64 k] [] (fun r h=>r=DI .i64 (k+(nv:Nat)+4 * (na:Nat))∧h=[]):=by
 have hmx:=mx_eq
 have ret:∀ (hp:Hp),RetOb 0 (fun r h=>r=DI .i64 (k+(nv:Nat)+4 * (na:Nat))∧h=[]) (DI .i64 (k+(nv:Nat)+4 * (na:Nat))) hp:=fun hp=>RetOb.plain ⟨rfl,rfl⟩ rfl
 generalize hR:(fun (r:D) (h:List (Option (List C)))=>r=DI .i64 (k+(nv:Nat)+4 * (na:Nat))∧h=[])=R at ret ⊢
 clear hR
 have c1:=heldIntSP k nv hk (by omega) (by omega)
 have c2:=heldIntSSP (k+(nv:Nat)) na (by omega) h2 (by omega)
 have h3:(k+(nv:Int)<0)=False:=eq_false (by omega)
 have h4:(k+(nv:Int)+4 * (na:Int)<0)=False:=eq_false (by omega)
 unfold mkM Mm.cells
 simp only
 generalize mkA (k+(nv:Nat)) na=arr at *
 generalize mkI k nv=va at *
 have e:isI va = .isl 1 (va.map fun b=>[I64 b]):=rfl
 rw [← e] at c1
 clear e
 refine dcZ Try.func64 ?_
 simp only [go_sem,h3,h4]
 iterate 10 ((try (refine drvZ Try.func64 ?_;simp only [go_sem,h3,h4]));((with_reducible and_intros)<;>try exact sd);(try first | refine XK.p c1 ok52 ?_ | refine XK.gp c1 ok52 ?_ | refine XK.p c2 ok127 ?_ | refine XK.gp c2 ok127 ?_))
 exact ret _
theorem frzM (m : Mm) (nv na : Nat) (hv : m.vals.length = nv) (ha : m.arrays.length = na) (h2 : na ≤ 2) (h4 : ∀ a ∈ m.arrays, a.length = 4) (k : Int) :
 Frz (hpL [some (m.vals.map I64),some (hdr 2 3 na),some (blk0 m.arrays),some (blk1 m.arrays)]) [.agg [.msl 0 1 0 nv,.msl 1 1 0 na],DI .i64 k] [.agg m.cells,DI .i64 k]:=by
 obtain ⟨va,arr⟩:=m
 simp only at hv ha h4 ⊢
 subst hv ha
 have e3:∀ a:List Int,(a.map fun n=>[C.v (.int .i64 n)]).flatten=a.map I64:=fun a=>flat1 _ a
 have e4:∀ l:List (List Int),(l.map fun a=>[C.isl 1 (a.map fun n=>[I64 n])]).flatten=l.map isI:=fun l=>flat1 _ l
 refine Frz.step (fun j=>if j=0 then some 0 else if j=1 then some 1 else none) [2,3] [(0,some (va.map I64)),(1,some (arr.map isI))] (args1:=[.agg [.msl 0 1 0 va.length,.msl 1 1 0 arr.length],DI .i64 k]) ?_ ?_ (Frz.of [0,1] ?_)
 ·match arr,h2,h4 with
  | [],_,h4=>simp [DM,DMs,CM,CMs,HpOK,LowOK,hOf,hpL,upd,CMs_I,hdr]
  | [a],_,h4 =>
   have ha:=h4 a (by simp)
   simp [DM,DMs,CM,CMs,HpOK,LowOK,hOf,hpL,upd,CMs_I,hdr,e3,isI,ha,blk0,kf]
  | [a,b],_,h4 =>
   have ha:=h4 a (by simp)
   have hb:=h4 b (by simp)
   simp [DM,DMs,CM,CMs,HpOK,LowOK,hOf,hpL,upd,CMs_I,hdr,e3,isI,ha,hb,blk0,blk1,kf]
 ·simp [DM,DMs,CM,CMs,hOf,upd]
 ·simp [DM,DMs,CM,CMs,hOf,upd,Mm.cells,isI,flat_I,kf,enumL]
  exact (e4 arr).symm
theorem frzMM (m : Mm) (nv na : Nat) (hv : m.vals.length = nv) (ha : m.arrays.length = na) (h2 : na ≤ 2) (h4 : ∀ a ∈ m.arrays, a.length = 4) :
 Frz (hpL [some (m.vals.map I64),some (hdr 2 3 na),some (blk0 m.arrays),some (blk1 m.arrays),some (m.vals.map I64),some (hdr 6 7 na),some (blk0 m.arrays),some (blk1 m.arrays)]) [.agg [.msl 0 1 0 nv,.msl 1 1 0 na],.agg [.msl 4 1 0 nv,.msl 5 1 0 na]] [.agg m.cells,.agg m.cells]:=by
 obtain ⟨va,arr⟩:=m
 simp only at hv ha h4 ⊢
 subst hv ha
 have e3:∀ a:List Int,(a.map fun n=>[C.v (.int .i64 n)]).flatten=a.map I64:=fun a=>flat1 _ a
 have e4:∀ l:List (List Int),(l.map fun a=>[C.isl 1 (a.map fun n=>[I64 n])]).flatten=l.map isI:=fun l=>flat1 _ l
 refine Frz.step (fun j=>if j=0 then some 0 else if j=1 then some 1 else if j=2 then some 4 else if j=3 then some 5 else none) [2,3,6,7] [(0,some (va.map I64)),(1,some (arr.map isI)),(2,some (va.map I64)),(3,some (arr.map isI))] (args1:=[.agg [.msl 0 1 0 va.length,.msl 1 1 0 arr.length],.agg [.msl 2 1 0 va.length,.msl 3 1 0 arr.length]]) ?_ ?_ (Frz.of [0,1,2,3] ?_)
 ·match arr,h2,h4 with
  | [],_,h4=>simp [DM,DMs,CM,CMs,HpOK,LowOK,hOf,hpL,upd,CMs_I,hdr]
  | [a],_,h4 =>
   have ha:=h4 a (by simp)
   simp [DM,DMs,CM,CMs,HpOK,LowOK,hOf,hpL,upd,CMs_I,hdr,e3,isI,ha,blk0,kf]
  | [a,b],_,h4 =>
   have ha:=h4 a (by simp)
   have hb:=h4 b (by simp)
   simp [DM,DMs,CM,CMs,HpOK,LowOK,hOf,hpL,upd,CMs_I,hdr,e3,isI,ha,hb,blk0,blk1,kf]
 ·simp [DM,DMs,CM,CMs,hOf,upd]
 ·simp [DM,DMs,CM,CMs,hOf,upd,Mm.cells,isI,flat_I,kf,enumL]
  exact (e4 arr).symm
theorem mkM_len (k:Int) (nv na:Nat):(mkM k nv na).vals.length=nv∧(mkM k nv na).arrays.length=na:=⟨mkI_len _ _,mkA_len _ _⟩
theorem heldMemoryO (k : Int) (nv na : Nat) (hk : 0 ≤ k) (hb : k ≤ 1048576) (hv : nv ≤ 1048576) (h2 : na ≤ 2) : DC Try.prog 64 [.agg [.msl 0 1 0 nv, .msl 1 1 0 na], DI .i64 k]
 [some ((mkM k nv na).vals.map I64),some (hdr 2 3 na),some (blk0 (mkM k nv na).arrays),some (blk1 (mkM k nv na).arrays)]
 (fun r h=>r=DI .i64 (k+(nv:Nat)+4 * (na:Nat))∧h=[some ((mkM k nv na).vals.map I64),some (hdr 2 3 na),some (blk0 (mkM k nv na).arrays),some (blk1 (mkM k nv na).arrays)]) :=
 DC.borrowG (frzM (mkM k nv na) nv na (mkM_len k nv na).1 (mkM_len k nv na).2 h2 mkA_4 k) (heldMemoryP k nv na hk hb hv h2)
theorem eqMemoryO (m : Mm) (nv na : Nat) (hv : m.vals.length = nv) (ha : m.arrays.length = na) (hv2 : nv ≤ 1048576) (h2 : na ≤ 2) (h4 : ∀ a ∈ m.arrays, a.length = 4) : DC Try.prog 49 [.agg [.msl 0 1 0 nv, .msl 1 1 0 na], .agg [.msl 4 1 0 nv, .msl 5 1 0 na]]
 [some (m.vals.map I64),some (hdr 2 3 na),some (blk0 m.arrays),some (blk1 m.arrays),some (m.vals.map I64),some (hdr 6 7 na),some (blk0 m.arrays),some (blk1 m.arrays)]
 (fun r h=>r=DB true∧h=[some (m.vals.map I64),some (hdr 2 3 na),some (blk0 m.arrays),some (blk1 m.arrays),some (m.vals.map I64),some (hdr 6 7 na),some (blk0 m.arrays),some (blk1 m.arrays)]):=by
 have hmx:=mx_eq
 exact DC.borrowG (frzMM m nv na hv ha h2 h4) (eqMemoryOf m (eqIntST m.vals (by omega)) (eqIntSSOf m.arrays (by omega) fun x hx=>eqIntST x (by have:=h4 x hx;omega)))
theorem evD2 (L:List Ev):∀ x ∈ L.map Ev.cells,x.length=2:=fun x hx=>by obtain ⟨b,_,rfl⟩:=List.mem_map.1 hx;rfl
theorem evDk (L:List Ev):∀ x ∈ L.map Ev.cells,∀ c ∈ x,kf c=true:=fun x hx c hc=>by
 obtain ⟨b,_,rfl⟩:=List.mem_map.1 hx
 simp only [Ev.cells,List.mem_cons,List.not_mem_nil,or_false] at hc
 rcases hc with rfl | rfl<;>rfl
theorem trC_od {hT:Hp} (L:List Ev):∀ c ∈ trC L,Od hT c:=fun c hc=>by
 obtain ⟨x,hx,hc⟩:=List.mem_flatten.1 hc
 obtain ⟨b,_,rfl⟩:=List.mem_map.1 hx
 simp only [Ev.cells,List.mem_cons,List.not_mem_nil,or_false] at hc
 rcases hc with rfl | rfl<;>exact .v _
theorem eqEventO (L:List Ev) (hm:L.length≤mx):DC Try.prog 62 [.c (.msl 0 2 0 L.length),.c (.msl 1 2 0 L.length)] [some (trC L),some (trC L)] (fun r h'=>r=DB true∧h'=[some (trC L),some (trC L)]) :=
 DC.borrow [0,1] (by
  simp only [DMs,DM,CM,trD]
  exact ⟨⟨⟨trivial,trivial,by simp⟩,by simp,rfl,evD2 L,evDk L⟩,⟨⟨trivial,trivial,by simp⟩,by simp,rfl,evD2 L,evDk L⟩,trivial⟩) (eqEventST L hm)
theorem heldEventO (k:Int) (n:Nat) (hk:0≤k) (hb:k+2 * (n:Nat)≤1099511627776) (hn:n≤mx):DC Try.prog 65 [.c (.msl 0 2 0 n),DI .i64 k] [some (trC (mkEv k n))] (fun r h'=>r=DI .i64 (k+2 * (n:Nat))∧h'=[some (trC (mkEv k n))]) :=
 DC.borrow [0] (by
  simp only [DMs,DM,CM,trD]
  exact ⟨⟨⟨trivial,trivial,by simp [mkEv_len]⟩,by simp,rfl,evD2 _,evDk _⟩,trivial,trivial⟩) (heldEventSP k n hk hb hn)
theorem markIntN (k:Int):DC Try.prog 51 [.c (.isl 1 []),DI .i64 k] [] (fun r h'=>r=DI .i64 k∧h'=[]):=by
 refine dcZ Try.func51 ?_
 simp only [go_sem]
 iterate 3 ((try (refine drvZ Try.func51 ?_;simp only [go_sem]));((with_reducible and_intros)<;>try exact sd))
 refine Go.loopQ (fun i:Nat=>[(0,.c (.isl 1 [])),(1,DI .i64 k),(5,DI .i64 0)]) (fun _=>[]) 1024 (fun i=>True) (fun i=>i) ?_ 0 some [] _ trivial ?_
 ·intro i hi again
  refine drvL Try.func51 ?_
  simp only [go_sem]
  iterate 3 ((try (refine drvZ Try.func51 ?_;simp only [go_sem]));((with_reducible and_intros)<;>try exact sd))
  exact RetOb.plain ⟨rfl,rfl⟩ rfl
 ·simp only [go_sem,TmOK,DM,DMs,CM,CMs,forall_eq,exists_eq_left,Mq,HpOK,LowOK]
  all_goals simp
theorem markIntSN (k:Int):DC Try.prog 106 [.c (.isl 1 []),DI .i64 k] [] (fun r h'=>r=DI .i64 k∧h'=[]):=by
 refine dcZ Try.func106 ?_
 simp only [go_sem]
 iterate 3 ((try (refine drvZ Try.func106 ?_;simp only [go_sem]));((with_reducible and_intros)<;>try exact sd))
 refine Go.loopQ (fun i:Nat=>[(0,.c (.isl 1 [])),(1,DI .i64 k),(5,DI .i64 0)]) (fun _=>[]) 1024 (fun i=>True) (fun i=>i) ?_ 0 some [] _ trivial ?_
 ·intro i hi again
  refine drvL Try.func106 ?_
  simp only [go_sem]
  iterate 3 ((try (refine drvZ Try.func106 ?_;simp only [go_sem]));((with_reducible and_intros)<;>try exact sd))
  exact RetOb.plain ⟨rfl,rfl⟩ rfl
 ·simp only [go_sem,TmOK,DM,DMs,CM,CMs,forall_eq,exists_eq_left,Mq,HpOK,LowOK]
  all_goals simp
theorem markEventN (k:Int):DC Try.prog 63 [.c (trD []),DI .i64 k] [] (fun r h'=>r=DI .i64 k∧h'=[]):=by
 have e:trD [] = .isl 2 []:=rfl
 rw [e]
 refine dcZ Try.func63 ?_
 simp only [go_sem]
 iterate 3 ((try (refine drvZ Try.func63 ?_;simp only [go_sem]));((with_reducible and_intros)<;>try exact sd))
 refine Go.loopQ (fun i:Nat=>[(0,.c (.isl 2 [])),(1,DI .i64 k),(5,DI .i64 0)]) (fun _=>[]) 1024 (fun i=>True) (fun i=>i) ?_ 0 some [] _ trivial ?_
 ·intro i hi again
  refine drvL Try.func63 ?_
  simp only [go_sem]
  iterate 3 ((try (refine drvZ Try.func63 ?_;simp only [go_sem]));((with_reducible and_intros)<;>try exact sd))
  exact RetOb.plain ⟨rfl,rfl⟩ rfl
 ·simp only [go_sem,TmOK,DM,DMs,CM,CMs,forall_eq,exists_eq_left,Mq,HpOK,LowOK]
  all_goals simp
theorem markMemoryN (k:Int):DC Try.prog 50 [.agg (Mm.cells ⟨[],[]⟩),DI .i64 k] [] (fun r h'=>r=DI .i64 k∧h'=[]):=by
 have c1:=markIntN k
 have c2:=markIntSN k
 have e:Mm.cells ⟨[],[]⟩=[.isl 1 [],.isl 1 []]:=rfl
 rw [e]
 refine dcZ Try.func50 ?_
 simp only [go_sem]
 iterate 10 ((try (refine drvZ Try.func50 ?_;simp only [go_sem]));((with_reducible and_intros)<;>try exact sd);(try first | refine XK.p c1 ok51 ?_ | refine XK.gp c1 ok51 ?_ | refine XK.p c2 ok106 ?_ | refine XK.gp c2 ok106 ?_))
 exact RetOb.plain ⟨rfl,rfl⟩ rfl
theorem heldMemoryN:DC Try.prog 64 [.agg (Mm.cells ⟨[],[]⟩),DI .i64 1] [] (fun r h=>r=DI .i64 1∧h=[]):=heldMemoryP 1 0 0 (by omega) (by omega) (by omega) (by omega)
theorem heldEventN:DC Try.prog 65 [.c (trD []),DI .i64 1] [] (fun r h=>r=DI .i64 1∧h=[]):=heldEventSP 1 0 (by omega) (by omega) (by simp)
theorem hdr_od {hT:Hp} {k k' n:Nat} (h:hT k ≠ none) (h':hT k' ≠ none):∀ c ∈ hdr k k' n,Od hT c:=fun c hc=>by
 have hc:=List.mem_of_mem_take hc
 simp only [List.mem_cons,List.not_mem_nil,or_false] at hc
 rcases hc with rfl | rfl
 ·exact .msl _ _ _ _ h
 ·exact .msl _ _ _ _ h'
theorem b0_od {hT:Hp} (a:List (List Int)):∀ c ∈ blk0 a,Od hT c:=ints_od _
theorem b1_od {hT:Hp} (a:List (List Int)):∀ c ∈ blk1 a,Od hT c:=ints_od _
theorem two_od {hT:Hp} {a b:C} (h1:Od hT a) (h2:Od hT b):∀ c ∈ [a,b],Od hT c:=fun c hc=>by
 simp only [List.mem_cons,List.not_mem_nil,or_false] at hc
 rcases hc with rfl | rfl
 ·exact h1
 ·exact h2
theorem lawXRun (p:Pg) (m:Mm) (hp:PgB p) (hm:MmB m):LW Try.prog 13 [.agg p.cells,.agg m.cells]:=by
 have hmx:=mx_eq
 refine lwZ Try.func13 (.cons (.agg (cyP_co false p)) (.cons (.agg (cyM_co false m)) .nil)) fun y=>?_
 have z1:=(szProgram_c p hp 1048576 (by omega) (by omega)).er (.cons (.agg (cyP_co false p)) (.cons (y:=false) (.rfl _) .nil))
 have ret:∀ hp:Hp,RetOb 0 (fun d h=>d=DB true∧h=[]) (DB true) hp:=fun hp=>RetOb.plain (d:=DB true) ⟨rfl,rfl⟩ rfl
 by_cases q1:((szP p:Nat):Int)≤1048576
 ·rw [subZ,if_pos q1] at z1
  have g1:((1048576:Int) - (szP p:Int)<0)=False:=eq_false (by omega)
  have z2:=(szMemory_c m hm (1048576 - (szP p:Int)) (by omega) (by omega)).er (.cons (.agg (cyM_co false m)) (.cons (y:=false) (.rfl _) .nil))
  by_cases q2:((szM m:Nat):Int)≤1048576 - (szP p:Int)
  ·rw [subZ,if_pos q2] at z2
   have g2:((1048576:Int) - (szP p:Int) - (szM m:Int)<0)=False:=eq_false (by omega)
   have np:=pgN_of (p:=p) (by omega)
   have nm:=mmN_of (m:=m) (by omega)
   have hls:lsize 5 p.body≤1048576:=by
    have h1:=lsize_le 5 p.body
    have h2:szSL p.body≤szP p:=by unfold szP;omega
    omega
   have nv:=np.nv
   have nar:=np.na
   have c1:=(toProgram_y p np).er (.cons (.agg (cyP_co false p)) .nil)
   have c2:=(toMemory_y m nm).er (.cons (.agg (cyM_co false m)) .nil)
   have e1:=(eqProgram_c p hp).er (.cons (.agg (cyP_co true p)) (.cons (.agg (cyP_co true p)) .nil))
   have e2:=(eqMemory_c m hm).er (.cons (.agg (cyM_co true m)) (.cons (.agg (cyM_co true m)) .nil))
   have hmk:=markP1 p np (by omega)
   have hmm:=markM1 m nm (by omega)
   have hyt:=cyP_yt p
   have hyw:=fun hT=>cyM_yw (hT:=hT) m
   have hwt:=cwM_yt m
   cases hq:(progOK p && memOK p.vars p.arrays m) with
   | false =>
    have hs:=(runProgS p m (by omega) (by omega) (by omega)).er (.cons (.agg (cyP_co true p)) (.cons (.agg (cyM_co true m)) .nil))
    have hi:=(runProgI p m (by omega) (by omega)).er (.cons (.agg (cyP_co true p)) (.cons (.agg (cyM_co true m)) .nil))
    rw [runP_false hq] at hs hi
    simp only at hs hi
    have q1':DC Try.prog 49 [.agg (Mm.cells ⟨[],[]⟩),.agg (Mm.cells ⟨[],[]⟩)] [] (fun r h=>r=DB true∧h=[]):=eqMemory_c ⟨[],[]⟩ ⟨by simp,by simp,by simp⟩
    have q2':=eqEventST [] (by simp)
    have q3':=markMemoryN 1
    have q4':=markEventN 1
    have q5':=heldMemoryN
    have q6':=heldEventN
    generalize szP p=s1 at *
    generalize szM m=s2 at *
    obtain ⟨vs,ar,bd⟩:=p
    obtain ⟨va,arr⟩:=m
    simp only [cyP,cyM,cyI,cwM,cwI] at hyt hyw hwt c1 c2 e1 e2 hs hi z1 z2 ⊢
    have e3:Mm.cells ⟨[],[]⟩=[.isl 1 [],.isl 1 []]:=rfl
    have e4:trD [] = .isl 2 []:=rfl
    simp only [e3,e4] at hs hi q1' q2' q3' q4' q5' q6'
    simp only [go_sem]
    iterate 24 ((try (refine drvZ Try.func13 ?_;simp only [go_sem,g1,g2,bne_self_eq_false]));((with_reducible and_intros)<;>try exact sd);(try first | refine XK.p z1 ok22 ?_ | refine XK.gp z1 ok22 ?_ | refine XK.p z2 ok44 ?_ | refine XK.gp z2 ok44 ?_ | refine XK.p c1 ok24 ?_ | refine XK.gp c1 ok24 ?_ | refine XK.p c2 ok46 ?_ | refine XK.gp c2 ok46 ?_ | refine XK.p hs ok60 ?_ | refine XK.gp hs ok60 ?_ | refine XK.p hi ok61 ?_ | refine XK.gp hi ok61 ?_ | refine XK.p e1 ok27 ?_ | refine XK.gp e1 ok27 ?_ | refine XK.p e2 ok49 ?_ | refine XK.gp e2 ok49 ?_ | refine XK.p q1' ok49 ?_ | refine XK.gp q1' ok49 ?_ | refine XK.p q2' ok62 ?_ | refine XK.gp q2' ok62 ?_))
    refine XK.mark [(2,.c (.ptr 0 0)),(3,.c (.ptr 64 0)),(6,.c (.ptr 1600 0)),(7,.c (.isl 2 [])),(8,DB false),(10,.c (.ptr 2240 0)),(11,.c (.ptr 2816 0)),(12,.c (.isl 2 [])),(13,DB false)] [(0,some [.csl false 1 (vs.map fun n=>[I64 n]),.csl false 1 (ar.map fun n=>[I64 n]),.csl false 11 (cySL false bd)]),(64,some [.csl false 1 (va.map fun n=>[I64 n]),.csl false 1 (arr.map fun a=>[.csl false 1 (a.map fun n=>[I64 n])])]),(1600,some [.isl 1 [],.isl 1 []]),(2816,some [.isl 1 [],.isl 1 []]),(2240,some [.csl true 1 (va.map fun _=>[.num .i64]),.csl true 1 (arr.map fun a=>[.csl true 1 (a.map fun _=>[.num .i64])])])] hmk ok28 (.cons (.agg hyt) (.cons (.c (.v _)) .nil)) (HL.cons rfl (.od (cyP_od ⟨vs,ar,bd⟩)) (HL.cons rfl (.od (cyM_od ⟨va,arr⟩)) (HL.cons rfl (.od (two_od (.nil _) (.nil _))) (HL.cons rfl (.od (two_od (.nil _) (.nil _))) (HL.cons rfl (hyw _) (HL.nil)))))) (ML.cons rfl (.c (.od (.ptr _ _ (by simp [hOf,upd])))) (ML.cons rfl (.c (.od (.ptr _ _ (by simp [hOf,upd])))) (ML.cons rfl (.c (.od (.ptr _ _ (by simp [hOf,upd])))) (ML.cons rfl (.c (.od (.nil _))) (ML.cons rfl (.c (.od (.v _))) (ML.cons rfl (.c (.od (.ptr _ _ (by simp [hOf,upd])))) (ML.cons rfl (.c (.od (.ptr _ _ (by simp [hOf,upd])))) (ML.cons rfl (.c (.od (.nil _))) (ML.cons rfl (.c (.od (.v _))) (ML.nil)))))))))) ?_
    rintro n ⟨hn0,hn1⟩
    iterate 4 ((try (refine drvZ Try.func13 ?_;simp only [go_sem]));((with_reducible and_intros)<;>try exact sd))
    refine XK.mark [(2,.c (.ptr 0 0)),(3,.c (.ptr 64 0)),(6,.c (.ptr 1600 0)),(7,.c (.isl 2 [])),(8,DB false),(11,.c (.ptr 2816 0)),(12,.c (.isl 2 [])),(13,DB false)] [(0,some [.csl false 1 (vs.map fun n=>[I64 n]),.csl false 1 (ar.map fun n=>[I64 n]),.csl false 11 (cySL false bd)]),(64,some [.csl false 1 (va.map fun n=>[I64 n]),.csl false 1 (arr.map fun a=>[.csl false 1 (a.map fun n=>[I64 n])])]),(1600,some [.isl 1 [],.isl 1 []]),(2816,some [.isl 1 [],.isl 1 []])] (hmm n ⟨hn0,hn1⟩) ok50 (.cons (.agg hwt) (.cons (.c (.v _)) .nil)) (HL.cons rfl (.od (cyP_od ⟨vs,ar,bd⟩)) (HL.cons rfl (.od (cyM_od ⟨va,arr⟩)) (HL.cons rfl (.od (two_od (.nil _) (.nil _))) (HL.cons rfl (.od (two_od (.nil _) (.nil _))) (HL.nil))))) (ML.cons rfl (.c (.od (.ptr _ _ (by simp [hOf,upd])))) (ML.cons rfl (.c (.od (.ptr _ _ (by simp [hOf,upd])))) (ML.cons rfl (.c (.od (.ptr _ _ (by simp [hOf,upd])))) (ML.cons rfl (.c (.od (.nil _))) (ML.cons rfl (.c (.od (.v _))) (ML.cons rfl (.c (.od (.ptr _ _ (by simp [hOf,upd])))) (ML.cons rfl (.c (.od (.nil _))) (ML.cons rfl (.c (.od (.v _))) (ML.nil))))))))) ?_
    rintro n2 ⟨hn3,hn4⟩
    have hn2:(n2<0)=False:=eq_false (by omega)
    iterate 40 ((try (refine drvZ Try.func13 ?_;simp only [go_sem,hn2,bne_self_eq_false,Int.reduceLT]));((with_reducible and_intros)<;>try exact sd);(try first | refine XK.p c1 ok24 ?_ | refine XK.gp c1 ok24 ?_ | refine XK.p c2 ok46 ?_ | refine XK.gp c2 ok46 ?_ | refine XK.p hi ok61 ?_ | refine XK.gp hi ok61 ?_ | refine XK.p q1' ok49 ?_ | refine XK.gp q1' ok49 ?_ | refine XK.p q2' ok62 ?_ | refine XK.gp q2' ok62 ?_ | refine XK.p q3' ok50 ?_ | refine XK.gp q3' ok50 ?_ | refine XK.p q4' ok63 ?_ | refine XK.gp q4' ok63 ?_ | refine XK.p q5' ok64 ?_ | refine XK.gp q5' ok64 ?_ | refine XK.p q6' ok65 ?_ | refine XK.gp q6' ok65 ?_))
    exact ret _
   | true =>
    have hs:=(runProgSO p m (by omega) (by omega) (by omega) hq).er (.cons (.agg (cyP_co true p)) (.cons (.agg (cyM_co true m)) .nil))
    have hi:=(runProgIO p m (by omega) (by omega) hq).er (.cons (.agg (cyP_co true p)) (.cons (.agg (cyM_co true m)) .nil))
    have hLm:=(runP_sm p m).2.2.2
    have hmf:=memFits_of hq
    have hrf:MemFits p (runP p m).1:=by
     rw [runP_true hq]
     exact (runL_ok hmf (body_of (by simp only [Bool.and_eq_true] at hq;exact hq.1)).1).1
    have k1:=hrf.nv
    have k2:=hrf.na
    have k3:=hrf.nv12.2
    have k4:=hrf.na2
    have k5:∀ a ∈ (runP p m).1.arrays,a.length=4:=fun a ha=>(hrf.arr a ha).1
    clear hrf hmf
    unfold roR at hs hi
    generalize (runP p m).2.1=L at *
    generalize (runP p m).1=M at *
    have heq:=eqMemoryO M p.vars.length p.arrays.length k1 k2 (by omega) k4 k5
    have hee:=eqEventO L (by omega)
    have hmb:=markMemoryO M p.vars.length p.arrays.length k1 k2 (by omega) k4 k5 1 (by omega) (by omega)
    have hme:=markEventSO L (1+(p.vars.length:Nat)+4 * (p.arrays.length:Nat)) (by omega) (by omega)
    have hhb:=heldMemoryO 1 p.vars.length p.arrays.length (by omega) (by omega) (by omega) k4
    have hhe:=heldEventO (1+(p.vars.length:Nat)+4 * (p.arrays.length:Nat)) L.length (by omega) (by omega) (by omega)
    generalize mkM 1 p.vars.length p.arrays.length=M1 at *
    generalize mkEv (1+(p.vars.length:Nat)+4 * (p.arrays.length:Nat)) L.length=L1 at *
    have g3:((1:Int)+(p.vars.length:Nat)+4 * (p.arrays.length:Nat)<0)=False:=eq_false (by omega)
    have g4:((1:Int)+(p.vars.length:Nat)+4 * (p.arrays.length:Nat)+2 * (L.length:Nat)<0)=False:=eq_false (by omega)
    generalize szP p=s1 at *
    generalize szM m=s2 at *
    obtain ⟨vs,ar,bd⟩:=p
    obtain ⟨va,arr⟩:=m
    simp only [cyP,cyM,cyI,cwM,cwI] at hyt hyw hwt c1 c2 e1 e2 hs hi z1 z2 heq hmb hme hhb hhe g3 g4 ⊢
    simp only [go_sem]
    iterate 10 ((try (refine drvZ Try.func13 ?_;simp only [go_sem,g1,g2]));((with_reducible and_intros)<;>try exact sd);(try first | refine XK.p z1 ok22 ?_ | refine XK.gp z1 ok22 ?_ | refine XK.p z2 ok44 ?_ | refine XK.gp z2 ok44 ?_ | refine XK.p c1 ok24 ?_ | refine XK.gp c1 ok24 ?_ | refine XK.p c2 ok46 ?_ | refine XK.gp c2 ok46 ?_))
    refine XK.callG [] hs ok60 (fun i' x h=>by simp at h) (hbT ()) (fun d h' ⟨_,e⟩=>by subst e;simp) ?_ (fun _=>⟨by kernel_rfl,_,_,⟨rfl,rfl⟩,by simp⟩)
    rintro _ _ ⟨rfl,rfl⟩ _
    iterate 6 ((try (refine drvZ Try.func13 ?_;simp only [go_sem,I_ren,renCs_hdr,renCs_b0,renCs_b1,renCs_tr]));((with_reducible and_intros)<;>try exact sd);(try first | refine XK.p c1 ok24 ?_ | refine XK.gp c1 ok24 ?_ | refine XK.p c2 ok46 ?_ | refine XK.gp c2 ok46 ?_))
    refine XK.callG [] hi ok61 (fun i' x h=>by simp at h) (hbT ()) (fun d h' ⟨_,e⟩=>by subst e;simp) ?_
    rintro _ _ ⟨rfl,rfl⟩ _
    iterate 6 ((try (refine drvZ Try.func13 ?_;simp only [go_sem,I_ren,renCs_hdr,renCs_b0,renCs_b1,renCs_tr]));((with_reducible and_intros)<;>try exact sd))
    refine XK.callG [2496,2497,2498,2499,1280,1281,1282,1283] heq ok49 (hhpG (by simp [HH,upd,hOf,I_ren,renCs_hdr,renCs_b0,renCs_b1,renCs_tr,rk0])) (hbT ()) (fun d h' ⟨_,e⟩=>by subst e;simp) ?_
    rintro _ _ ⟨rfl,rfl⟩ _
    iterate 4 ((try (refine drvZ Try.func13 ?_;simp only [go_sem,I_ren,renCs_hdr,renCs_b0,renCs_b1,renCs_tr,bne_self_eq_false]));((with_reducible and_intros)<;>try exact sd))
    refine XK.callT 4 false [2500,1284] hee ok62 (hhpG (by simp [HH,upd,hOf,I_ren,renCs_hdr,renCs_b0,renCs_b1,renCs_tr,rk0])) (hbT ()) (fun d h' ⟨_,e⟩=>by subst e;simp) ?_
    rintro _ _ ⟨rfl,rfl⟩ _
    iterate 12 ((try (refine drvZ Try.func13 ?_;simp only [go_sem,I_ren,renCs_hdr,renCs_b0,renCs_b1,renCs_tr,bne_self_eq_false]));((with_reducible and_intros)<;>try exact sd);(try first | refine XK.p c1 ok24 ?_ | refine XK.gp c1 ok24 ?_ | refine XK.p c2 ok46 ?_ | refine XK.gp c2 ok46 ?_ | refine XK.p e1 ok27 ?_ | refine XK.gp e1 ok27 ?_ | refine XK.p e2 ok49 ?_ | refine XK.gp e2 ok49 ?_))
    refine XK.mark [(2,.c (.ptr 0 0)),(3,.c (.ptr 64 0)),(6,.c (.ptr 1600 0)),(7,.c (.msl 1284 2 0 L.length)),(8,DB true),(10,.c (.ptr 2240 0)),(11,.c (.ptr 2816 0)),(12,.c (.msl 2500 2 0 L.length)),(13,DB true)] [(0,some [.csl false 1 (vs.map fun n=>[I64 n]),.csl false 1 (ar.map fun n=>[I64 n]),.csl false 11 (cySL false bd)]),(64,some [.csl false 1 (va.map fun n=>[I64 n]),.csl false 1 (arr.map fun a=>[.csl false 1 (a.map fun n=>[I64 n])])]),(1280,some (M.vals.map I64)),(1281,some (hdr 1282 1283 ar.length)),(1282,some (blk0 M.arrays)),(1283,some (blk1 M.arrays)),(1284,some (trC L)),(1600,some [.msl 1280 1 0 vs.length,.msl 1281 1 0 ar.length]),(2496,some (M.vals.map I64)),(2497,some (hdr 2498 2499 ar.length)),(2498,some (blk0 M.arrays)),(2499,some (blk1 M.arrays)),(2500,some (trC L)),(2816,some [.msl 2496 1 0 vs.length,.msl 2497 1 0 ar.length]),(2240,some [.csl true 1 (va.map fun _=>[.num .i64]),.csl true 1 (arr.map fun a=>[.csl true 1 (a.map fun _=>[.num .i64])])])] hmk ok28 (.cons (.agg hyt) (.cons (.c (.v _)) .nil)) (HL.cons rfl (.od (cyP_od ⟨vs,ar,bd⟩)) (HL.cons rfl (.od (cyM_od ⟨va,arr⟩)) (HL.cons rfl (.od (ints_od _)) (HL.cons rfl (.od (hdr_od (by simp [hOf,upd]) (by simp [hOf,upd]))) (HL.cons rfl (.od (b0_od _)) (HL.cons rfl (.od (b1_od _)) (HL.cons rfl (.od (trC_od _)) (HL.cons rfl (.od (two_od (.msl _ _ _ _ (by simp [hOf,upd])) (.msl _ _ _ _ (by simp [hOf,upd])))) (HL.cons rfl (.od (ints_od _)) (HL.cons rfl (.od (hdr_od (by simp [hOf,upd]) (by simp [hOf,upd]))) (HL.cons rfl (.od (b0_od _)) (HL.cons rfl (.od (b1_od _)) (HL.cons rfl (.od (trC_od _)) (HL.cons rfl (.od (two_od (.msl _ _ _ _ (by simp [hOf,upd])) (.msl _ _ _ _ (by simp [hOf,upd])))) (HL.cons rfl (hyw _) (HL.nil)))))))))))))))) (ML.cons rfl (.c (.od (.ptr _ _ (by simp [hOf,upd])))) (ML.cons rfl (.c (.od (.ptr _ _ (by simp [hOf,upd])))) (ML.cons rfl (.c (.od (.ptr _ _ (by simp [hOf,upd])))) (ML.cons rfl (.c (.od (.msl _ _ _ _ (by simp [hOf,upd])))) (ML.cons rfl (.c (.od (.v _))) (ML.cons rfl (.c (.od (.ptr _ _ (by simp [hOf,upd])))) (ML.cons rfl (.c (.od (.ptr _ _ (by simp [hOf,upd])))) (ML.cons rfl (.c (.od (.msl _ _ _ _ (by simp [hOf,upd])))) (ML.cons rfl (.c (.od (.v _))) (ML.nil)))))))))) ?_
    rintro n ⟨hn0,hn1⟩
    iterate 4 ((try (refine drvZ Try.func13 ?_;simp only [go_sem,I_ren,renCs_hdr,renCs_b0,renCs_b1,renCs_tr,bne_self_eq_false]));((with_reducible and_intros)<;>try exact sd))
    refine XK.mark [(2,.c (.ptr 0 0)),(3,.c (.ptr 64 0)),(6,.c (.ptr 1600 0)),(7,.c (.msl 1284 2 0 L.length)),(8,DB true),(11,.c (.ptr 2816 0)),(12,.c (.msl 2500 2 0 L.length)),(13,DB true)] [(0,some [.csl false 1 (vs.map fun n=>[I64 n]),.csl false 1 (ar.map fun n=>[I64 n]),.csl false 11 (cySL false bd)]),(64,some [.csl false 1 (va.map fun n=>[I64 n]),.csl false 1 (arr.map fun a=>[.csl false 1 (a.map fun n=>[I64 n])])]),(1280,some (M.vals.map I64)),(1281,some (hdr 1282 1283 ar.length)),(1282,some (blk0 M.arrays)),(1283,some (blk1 M.arrays)),(1284,some (trC L)),(1600,some [.msl 1280 1 0 vs.length,.msl 1281 1 0 ar.length]),(2496,some (M.vals.map I64)),(2497,some (hdr 2498 2499 ar.length)),(2498,some (blk0 M.arrays)),(2499,some (blk1 M.arrays)),(2500,some (trC L)),(2816,some [.msl 2496 1 0 vs.length,.msl 2497 1 0 ar.length])] (hmm n ⟨hn0,hn1⟩) ok50 (.cons (.agg hwt) (.cons (.c (.v _)) .nil)) (HL.cons rfl (.od (cyP_od ⟨vs,ar,bd⟩)) (HL.cons rfl (.od (cyM_od ⟨va,arr⟩)) (HL.cons rfl (.od (ints_od _)) (HL.cons rfl (.od (hdr_od (by simp [hOf,upd]) (by simp [hOf,upd]))) (HL.cons rfl (.od (b0_od _)) (HL.cons rfl (.od (b1_od _)) (HL.cons rfl (.od (trC_od _)) (HL.cons rfl (.od (two_od (.msl _ _ _ _ (by simp [hOf,upd])) (.msl _ _ _ _ (by simp [hOf,upd])))) (HL.cons rfl (.od (ints_od _)) (HL.cons rfl (.od (hdr_od (by simp [hOf,upd]) (by simp [hOf,upd]))) (HL.cons rfl (.od (b0_od _)) (HL.cons rfl (.od (b1_od _)) (HL.cons rfl (.od (trC_od _)) (HL.cons rfl (.od (two_od (.msl _ _ _ _ (by simp [hOf,upd])) (.msl _ _ _ _ (by simp [hOf,upd])))) (HL.nil))))))))))))))) (ML.cons rfl (.c (.od (.ptr _ _ (by simp [hOf,upd])))) (ML.cons rfl (.c (.od (.ptr _ _ (by simp [hOf,upd])))) (ML.cons rfl (.c (.od (.ptr _ _ (by simp [hOf,upd])))) (ML.cons rfl (.c (.od (.msl _ _ _ _ (by simp [hOf,upd])))) (ML.cons rfl (.c (.od (.v _))) (ML.cons rfl (.c (.od (.ptr _ _ (by simp [hOf,upd])))) (ML.cons rfl (.c (.od (.msl _ _ _ _ (by simp [hOf,upd])))) (ML.cons rfl (.c (.od (.v _))) (ML.nil))))))))) ?_
    rintro n2 ⟨hn3,hn4⟩
    have hn2:(n2<0)=False:=eq_false (by omega)
    iterate 5 ((try (refine drvZ Try.func13 ?_;simp only [go_sem,I_ren,renCs_hdr,renCs_b0,renCs_b1,renCs_tr,bne_self_eq_false,hn2]));((with_reducible and_intros)<;>try exact sd))
    refine XK.callT 2 false [2496,2497,2498,2499,1280,1281,1282,1283] heq ok49 (hhpG (by simp [HH,upd,hOf,I_ren,renCs_hdr,renCs_b0,renCs_b1,renCs_tr,rk0])) (hbT ()) (fun d h' ⟨_,e⟩=>by subst e;simp) ?_
    rintro _ _ ⟨rfl,rfl⟩ _
    iterate 4 ((try (refine drvZ Try.func13 ?_;simp only [go_sem,I_ren,renCs_hdr,renCs_b0,renCs_b1,renCs_tr,bne_self_eq_false,hn2]));((with_reducible and_intros)<;>try exact sd))
    refine XK.callT 8 false [2500,1284] hee ok62 (hhpG (by simp [HH,upd,hOf,I_ren,renCs_hdr,renCs_b0,renCs_b1,renCs_tr,rk0])) (hbT ()) (fun d h' ⟨_,e⟩=>by subst e;simp) ?_
    rintro _ _ ⟨rfl,rfl⟩ _
    iterate 5 ((try (refine drvZ Try.func13 ?_;simp only [go_sem,I_ren,renCs_hdr,renCs_b0,renCs_b1,renCs_tr,bne_self_eq_false,hn2]));((with_reducible and_intros)<;>try exact sd))
    refine XK.callG [2496,2497,2498,2499] hmb ok50 (hhpG (by simp [HH,upd,hOf,I_ren,renCs_hdr,renCs_b0,renCs_b1,renCs_tr,rk0])) (hbT ()) (fun d h' ⟨_,e⟩=>by subst e;simp) ?_
    rintro _ _ ⟨rfl,rfl⟩ _
    iterate 4 ((try (refine drvZ Try.func13 ?_;simp only [go_sem,I_ren,renCs_hdr,renCs_b0,renCs_b1,renCs_tr,bne_self_eq_false]));((with_reducible and_intros)<;>try exact sd))
    refine XK.callG [2500] hme ok63 (hhpG (by simp [HH,upd,hOf,I_ren,renCs_hdr,renCs_b0,renCs_b1,renCs_tr,rk0])) (hbT ()) (fun d h' ⟨_,e⟩=>by subst e;simp) ?_
    rintro _ _ ⟨rfl,rfl⟩ _
    iterate 4 ((try (refine drvZ Try.func13 ?_;simp only [go_sem,I_ren,renCs_hdr,renCs_b0,renCs_b1,renCs_tr,bne_self_eq_false]));((with_reducible and_intros)<;>try exact sd))
    refine XK.callG [2496,2497,2498,2499] hhb ok64 (hhpG (by simp [HH,upd,hOf,I_ren,renCs_hdr,renCs_b0,renCs_b1,renCs_tr,rk0])) (hbT ()) (fun d h' ⟨_,e⟩=>by subst e;simp) ?_
    rintro _ _ ⟨rfl,rfl⟩ _
    iterate 5 ((try (refine drvZ Try.func13 ?_;simp only [go_sem,I_ren,renCs_hdr,renCs_b0,renCs_b1,renCs_tr,bne_self_eq_false,g3]));((with_reducible and_intros)<;>try exact sd))
    refine XK.callG [2500] hhe ok65 (hhpG (by simp [HH,upd,hOf,I_ren,renCs_hdr,renCs_b0,renCs_b1,renCs_tr,rk0])) (hbT ()) (fun d h' ⟨_,e⟩=>by subst e;simp) ?_
    rintro _ _ ⟨rfl,rfl⟩ _
    iterate 8 ((try (refine drvZ Try.func13 ?_;simp only [go_sem,I_ren,renCs_hdr,renCs_b0,renCs_b1,renCs_tr,bne_self_eq_false,g3,g4]));((with_reducible and_intros)<;>try exact sd);(try first | refine XK.p c1 ok24 ?_ | refine XK.gp c1 ok24 ?_ | refine XK.p c2 ok46 ?_ | refine XK.gp c2 ok46 ?_))
    refine XK.callG [] hi ok61 (fun i' x h=>by simp at h) (hbT ()) (fun d h' ⟨_,e⟩=>by subst e;simp) ?_ (fun _=>⟨by kernel_rfl,_,_,⟨rfl,rfl⟩,by simp⟩)
    rintro _ _ ⟨rfl,rfl⟩ _
    iterate 5 ((try (refine drvZ Try.func13 ?_;simp only [go_sem,I_ren,renCs_hdr,renCs_b0,renCs_b1,renCs_tr,bne_self_eq_false]));((with_reducible and_intros)<;>try exact sd))
    refine XK.callG [8320,8321,8322,8323,1280,1281,1282,1283] heq ok49 (hhpG (by simp [HH,upd,hOf,I_ren,renCs_hdr,renCs_b0,renCs_b1,renCs_tr,rk0])) (hbT ()) (fun d h' ⟨_,e⟩=>by subst e;simp) ?_
    rintro _ _ ⟨rfl,rfl⟩ _
    iterate 4 ((try (refine drvZ Try.func13 ?_;simp only [go_sem,I_ren,renCs_hdr,renCs_b0,renCs_b1,renCs_tr,bne_self_eq_false]));((with_reducible and_intros)<;>try exact sd))
    refine XK.callT 4 false [8324,1284] hee ok62 (hhpG (by simp [HH,upd,hOf,I_ren,renCs_hdr,renCs_b0,renCs_b1,renCs_tr,rk0])) (hbT ()) (fun d h' ⟨_,e⟩=>by subst e;simp) ?_
    rintro _ _ ⟨rfl,rfl⟩ _
    iterate 5 ((try (refine drvZ Try.func13 ?_;simp only [go_sem,I_ren,renCs_hdr,renCs_b0,renCs_b1,renCs_tr,bne_self_eq_false]));((with_reducible and_intros)<;>try exact sd))
    refine XK.callG [2496,2497,2498,2499] hhb ok64 (hhpG (by simp [HH,upd,hOf,I_ren,renCs_hdr,renCs_b0,renCs_b1,renCs_tr,rk0])) (hbT ()) (fun d h' ⟨_,e⟩=>by subst e;simp) ?_
    rintro _ _ ⟨rfl,rfl⟩ _
    iterate 5 ((try (refine drvZ Try.func13 ?_;simp only [go_sem,I_ren,renCs_hdr,renCs_b0,renCs_b1,renCs_tr,bne_self_eq_false,g3]));((with_reducible and_intros)<;>try exact sd))
    refine XK.callG [2500] hhe ok65 (hhpG (by simp [HH,upd,hOf,I_ren,renCs_hdr,renCs_b0,renCs_b1,renCs_tr,rk0])) (hbT ()) (fun d h' ⟨_,e⟩=>by subst e;simp) ?_
    rintro _ _ ⟨rfl,rfl⟩ _
    iterate 8 ((try (refine drvZ Try.func13 ?_;simp only [go_sem,I_ren,renCs_hdr,renCs_b0,renCs_b1,renCs_tr,bne_self_eq_false,g3,g4]));((with_reducible and_intros)<;>try exact sd))
    exact ret _
  ·rw [subZ,if_neg q2] at z2
   obtain ⟨vs,ar,bd⟩:=p
   obtain ⟨va,arr⟩:=m
   simp only [cyP,cyM,cyI] at z1 z2 ⊢
   generalize szP ⟨vs,ar,bd⟩=s1 at *
   simp only [go_sem]
   iterate 7 ((try (refine drvZ Try.func13 ?_;simp only [go_sem,g1]));((with_reducible and_intros)<;>try exact sd);(try first | refine XK.p z1 ok22 ?_ | refine XK.gp z1 ok22 ?_ | refine XK.p z2 ok44 ?_ | refine XK.gp z2 ok44 ?_))
   exact ret _
 ·rw [subZ,if_neg q1] at z1
  obtain ⟨vs,ar,bd⟩:=p
  obtain ⟨va,arr⟩:=m
  simp only [cyP,cyM,cyI] at z1 ⊢
  simp only [go_sem]
  iterate 4 ((try (refine drvZ Try.func13 ?_;simp only [go_sem]));((with_reducible and_intros)<;>try exact sd);(try first | refine XK.p z1 ok22 ?_ | refine XK.gp z1 ok22 ?_))
  exact ret _
end Go.Proofs.Ytddanjifhdaebaa.CtD
