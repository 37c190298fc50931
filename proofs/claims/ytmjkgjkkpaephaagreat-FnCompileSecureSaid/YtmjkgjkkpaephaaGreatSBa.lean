/- Contracts of functions of the program, one behind the other, as plain data: what each call returns and which blocks it leaves. -/
import Derived.Test.YtmjkgjkkpaephaaGreatSFacts
import Derived.Test.YtmjkgjkkpaephaaGreatSAi
import Derived.Test.YtmjkgjkkpaephaaGreatSAj
import Derived.Test.YtmjkgjkkpaephaaGreatSAl
import Derived.Test.YtmjkgjkkpaephaaGreatSAn
import Derived.Test.YtmjkgjkkpaephaaGreatSAo
import Derived.Test.YtmjkgjkkpaephaaGreatSAp
import Derived.Test.YtmjkgjkkpaephaaGreatSAq
import Derived.Test.YtmjkgjkkpaephaaGreatSAs
import Derived.Test.YtmjkgjkkpaephaaGreatSAt
import Derived.Test.YtmjkgjkkpaephaaGreatSAu
import Derived.Test.YtmjkgjkkpaephaaGreatSAv
import Derived.Test.YtmjkgjkkpaephaaGreatSAw
import Derived.Test.YtmjkgjkkpaephaaGreatSAx
import Derived.Test.YtmjkgjkkpaephaaGreatSAy
import Derived.Test.YtmjkgjkkpaephaaGreatSAz
set_option linter.unusedVariables false
set_option linter.unusedSimpArgs false
set_option maxHeartbeats 16000000
set_option maxRecDepth 100000
namespace Go.Proofs.YtmjkgjkkpaephaaGreat.CtD
open Go Go.CT CtF CtR
open CtL (e0 cE vE rdE bE selE hitE asg sto maskE readN readS stoN stoS linK lab1 linE linB linO maskS linI linS linQ linP)
def LnH (ar vs:List Int) (out:List St1):List (Option (List C)):=[some [.msl 1 1 0 vs.length,isI ar,.v (.slice none 0 0)],some (vs.map I64),some [.msl 3 11 0 out.length],some (stC out)]
def LnR (ar vs:List Int) (out:List St1):List (Option (List C)):=[some [.msl 4 1 0 vs.length,isI ar,.v (.slice none 0 0)],none,some [.msl 5 11 0 out.length],none,some (vs.map I64),some (stC out)]
theorem RetOb.lnA {R : D → List (Option (List C)) → Prop} {V ar : List Int} {out : List St1} {d d' : D} {hp : Hp} {ka kb n1 n2 : Nat} {cs : List C} (hR : R d' (LnR ar V out))
 (h0:hp 0=some (some [.msl ka 1 0 n1,isI ar,.v (.slice none 0 0)])) (h2:hp 2=some (some [.msl kb 11 0 n2])) (ha:hp ka=some (some (V.map I64))) (hb:hp kb=some (some cs)) (hc:∀ hT r fz,CMs hT r hp fz (stC out) cs)
 (e1:n1=V.length) (e2:n2=out.length) (na:1≤ka) (nb:1≤kb) (na2:ka ≠ 2) (nb2:kb ≠ 2) (nab:ka ≠ kb)
 (hd:∀ hT r,DM hT r hp [] d' d):RetOb 4 R d hp:=by
 subst e1 e2
 refine RetOb.ofQ (fun j=>if j=4 then some ka else if j=5 then some kb else some j) [] d' (LnR ar V out) ?_ hR (by simp [LnR])
 refine ⟨hd _ _,?_⟩
 have n0:¬ 0=ka:=by omega
 have n0':¬ 0=kb:=by omega
 simp [LnR,enumL,hOf,CM,CMs,HpOK,LowOK,upd,isI,h0,h2,ha,hb,n0,n0',Ne.symm na2,Ne.symm nb2,nab,CMs_I]
 exact hc _ _ _
theorem put_end {a z:List C} {n:Nat} (h:n=a.length) (k:Nat) (c:C):(a++z).set (n+k) c=a++z.set k c:=by
 subst h;rw [List.set_append_right _ _ (by omega)];congr 2;omega
theorem putL {out:List St1} (h:(stC out).length=out.length * 11):(∀ (z:List C) (c:C),(stC out++z).set (out.length * 11) c=stC out++z.set 0 c)∧∀ (z:List C) (k:Nat) (c:C),(stC out++z).set (out.length * 11+k) c=stC out++z.set k c :=
 ⟨fun z c=>put_end h.symm 0 c,fun z k c=>put_end h.symm k c⟩
theorem exprI (ar:List Int) (pc:Nat) (hpc:pc≤3) (h2:lab3 ar) (hla:ar.length≤1048576):∀ (d:Nat) (e:Ex) (vs:List Int) (out:List St1),CtR.shape ⟨vs,ar,[]⟩ d e=true→lab3 vs→vs.length+cnt d e≤1048576→out.length+4 * cnt d e≤1048576 →
 DC Tryz.prog 149 [.c (.ptr 0 0), .agg e.cells, DI .i64 pc, .c (.ptr 2 0)] (LnH ar vs out)
  (fun r h=>r = .agg (linE ar pc d vs e).2.2.cells∧h=LnR ar (linE ar pc d vs e).1 (out++(linE ar pc d vs e).2.1)):=by
 have hmx:=mx_eq
 intro d
 induction d with
 | zero=>intro e vs out h;simp [CtR.shape] at h
 | succ d ih =>
  intro e vs out hsh h1 hlv hlo
  obtain ⟨k,v,ks⟩:=e
  obtain ⟨g1,g2,g3⟩:=shape_succ hsh
  obtain ⟨hl3,hlar,hv0,hv1⟩:=fits_len g1
  have hcl:=stC_len out
  generalize hR:(fun (r:D) (h:List (Option (List C)))=>r = .agg (linE ar pc (d+1) vs (.mk k v ks)).2.2.cells∧h=LnR ar (linE ar pc (d+1) vs (.mk k v ks)).1 (out++(linE ar pc (d+1) vs (.mk k v ks)).2.1))=R
  unfold LnH
  refine dcZ Tryz.func149 ?_
  simp only [go_sem]
  iterate 3 ((try (refine drvZ Tryz.func149 ?_;simp only [go_sem]));((with_reducible and_intros)<;>try exact sd))
  have hT:∀ i x,ks[i]? = some x→linK (linE ar pc d) vs (ks.take (i+1))=((linE ar pc d (linK (linE ar pc d) vs (ks.take i)).1 x).1,(linK (linE ar pc d) vs (ks.take i)).2.1++(linE ar pc d (linK (linE ar pc d) vs (ks.take i)).1 x).2.1,(linK (linE ar pc d) vs (ks.take i)).2.2++[(linE ar pc d (linK (linE ar pc d) vs (ks.take i)).1 x).2.2]):=fun i x hx=>by
   rw [List.take_add_one,hx];exact linK_snoc _ _ _
  have hTl:∀ i,i≤ks.length→(linK (linE ar pc d) vs (ks.take i)).2.2.length=i:=fun i hi=>by rw [linK_len,List.length_take];omega
  have hTs:∀ i,(linK (linE ar pc d) vs (ks.take i)).1.length≤vs.length+tsum (cnt d) ks i∧(linK (linE ar pc d) vs (ks.take i)).2.1.length≤4 * tsum (cnt d) ks i:=fun i=>CtL.linK_sz (fun vs e=>CtL.linE_sz d vs e) (ks.take i) vs
  have hT3:∀ i,lab3 (linK (linE ar pc d) vs (ks.take i)).1:=fun i=>by
   have:∀ (l:List Ex) (vs:List Int),lab3 vs→lab3 (linK (linE ar pc d) vs l).1:=by
    intro l
    induction l with
    | nil=>intro vs h;exact h
    | cons a r ih=>intro vs h;simp only [linK];exact ih _ (linE_lab3 hpc h2 d vs a h)
   exact this _ _ h1
  have hTm:∀ i,vs.length≤(linK (linE ar pc d) vs (ks.take i)).1.length:=fun i=>CtL.more_le (CtL.linK_ok (q:=⟨[],ar,[]⟩) (ks.take i) vs (fun x hx=>g2 x (List.mem_of_mem_take hx)) fun vs e hs=>CtL.linE_ok (ar:=ar) (q:=⟨[],ar,[]⟩) rfl pc d vs e hs).more
  have hsum:=fun i=>tsum_le (cnt d) ks i
  have hcn:cnt (d+1) (.mk k v ks)=1+(ks.map (cnt d)).sum:=rfl
  refine Go.loopQ (fun i : Nat => [(0, .c (.ptr 0 0)), (2, DI .i64 pc), (3, .c (.ptr 2 0)), (5, .c (.ptr 4 0)), (8, .c (.ptr 68 0)), (9, .c (.ptr 452 0)), (20, .c (.isl 3 (Ex.cellsL ks))), (21, DI .i64 ks.length), (22, DI .i64 i)])
   (fun i=>[(0,some [.msl 5 1 0 (linK (linE ar pc d) vs (ks.take i)).1.length,isI ar,.v (.slice none 0 0)]),(1,none),(2,some [.msl 6 11 0 (out++(linK (linE ar pc d) vs (ks.take i)).2.1).length]),(3,none),(4,some (Ex.cells (.mk k v ks))),(5,some ((linK (linE ar pc d) vs (ks.take i)).1.map I64)),(6,some (stC (out++(linK (linE ar pc d) vs (ks.take i)).2.1))),
    (7,some (exC (linK (linE ar pc d) vs (ks.take i)).2.2)),(68,some [I64 0,I64 0,.v (.slice none 0 0)]),(452,some [I64 k,I64 v,.msl 7 3 0 i])])
   4096 (fun i=>i≤ks.length) (fun i=>ks.length - i) ?_ 0 (fun j=>if j=5 then some 1 else if j=6 then some 3 else if j=7 then none else some j) [] _ (Nat.zero_le _) ?_
  ·intro i hi again
   rcases Nat.lt_or_ge i ks.length with hlt | hge
   ·obtain ⟨⟨k',v',ks'⟩,hx⟩:∃ x,ks[i]? = some x:=⟨ks[i],by simp [hlt]⟩
    have hTi:=hT i _ hx
    have hsz:=hTs i
    have hsu:=hsum (i+1)
    rw [tsum_succ (cnt d) ks i _ hx] at hsu
    have hl3i:=hT3 i
    have hsx:=CtL.shape_mono (p:=⟨vs,ar,[]⟩) (q:=⟨(linK (linE ar pc d) vs (ks.take i)).1,ar,[]⟩) (hTm i) rfl d _ (g2 _ (List.mem_of_getElem? hx))
    have hkl:=hTl i hi
    have hsz2:=hTs (i+1)
    rw [hTi] at hsz2
    generalize linK (linE ar pc d) vs (ks.take i)=T at *
    obtain ⟨vi,oi,ki⟩:=T
    simp only at hTi hsz hl3i hsx hkl hsz2
    have hic:=ih (.mk k' v' ks') vi (out++oi) hsx hl3i (by omega) (by rw [List.length_append];omega)
    generalize linE ar pc d vi (.mk k' v' ks')=E at *
    obtain ⟨vj,oj,⟨ek,ev,eks⟩⟩:=E
    simp only [LnH,LnR] at hTi hic hsz2
    have hel:=exC_len ki
    have hcl2:=stC_len (out++oi)
    refine drvL Tryz.func149 ?_
    simp only [go_sem,hx,hlt]
    iterate 3 ((try (refine drvZ Tryz.func149 ?_;simp only [go_sem,hx,hlt]));((with_reducible and_intros)<;>try exact sd))
    refine XK.callG [0,5,2,6] hic ok149 (hhpG (by simp [HH,upd,hpL,renCs_stC,renCs_I,renCs,renC,rk0,isI])) (hbT ()) (fun d h' ⟨_,e⟩=>by subst e;simp) ?_ (fun _=>⟨by kernel_rfl,_,_,⟨rfl,rfl⟩,by simp⟩)
    rintro _ _ ⟨rfl,rfl⟩ _
    iterate 5 ((try (refine drvZ Tryz.func149 ?_;simp only [go_sem,renCs_stC,renCs_I,hel]));((with_reducible and_intros)<;>try exact sd))
    refine again (i+1) (fun j=>if j=5 then some 4800 else if j=6 then some 4801 else if j=7 then some 4928 else some j) [] _ hlt (by omega) ?_
    simp only [go_sem,TmOK,DM,DMs,CM,CMs,forall_eq,exists_eq_left,Mq,HpOK,LowOK,hTi,exC_snoc]
    simp [CMs_I]
    refine ⟨CMs.kf (stC_kf _),CMs.kf (kf_app (exC_kf _) (by simp [kf]))⟩
   ·have hn:¬ i<ks.length:=by omega
    obtain rfl:i=ks.length:=by omega
    have hTs:=hTs ks.length
    have hkl:=hTl ks.length (Nat.le_refl _)
    have hl3i:=hT3 ks.length
    have hTm:=hTm ks.length
    clear ih hT hTl hT3 again
    rw [List.take_length] at hTs hkl hl3i hTm
    simp only [List.take_length]
    refine Go.subQ (r := some) (fz := [7]) (tl := [(0, .c (.ptr 0 0)), (2, DI .i64 pc), (3, .c (.ptr 2 0)), (5, .c (.ptr 4 0)), (8, .c (.ptr 68 0)), (9, .c (.ptr 452 0)), (20, .c (.isl 3 (Ex.cellsL ks))), (21, DI .i64 ks.length), (22, DI .i64 ks.length)])
     (hl:=[(0,some [.msl 5 1 0 (linK (linE ar pc d) vs ks).1.length,isI ar,.v (.slice none 0 0)]),(1,none),(2,some [.msl 6 11 0 (out++(linK (linE ar pc d) vs ks).2.1).length]),(3,none),(4,some (Ex.cells (.mk k v ks))),(5,some ((linK (linE ar pc d) vs ks).1.map I64)),(6,some (stC (out++(linK (linE ar pc d) vs ks).2.1))),
      (68,some [I64 0,I64 0,.v (.slice none 0 0)]),(452,some (Ex.cells (.mk k v (linK (linE ar pc d) vs ks).2.2)))]) 4096 ?_ ?_
    ·generalize linK (linE ar pc d) vs ks=T at *
     obtain ⟨vi,oi,ki⟩:=T
     have g1:(Ex.cellsL ki).flatten=exC ki:=by rw [Ex.cellsL_eq];rfl
     have g2:∀ x ∈ Ex.cellsL ki,x.length=3:=fun x hx=>by rw [Ex.cellsL_eq] at hx;obtain ⟨e,_,rfl⟩:=List.mem_map.1 hx;exact Ex.cells_len e
     have g3:∀ x ∈ Ex.cellsL ki,∀ c ∈ x,kf c=true:=fun x hx=>by rw [Ex.cellsL_eq] at hx;obtain ⟨e,_,rfl⟩:=List.mem_map.1 hx;exact ex_kf e
     have hkl:ki.length=ks.length:=hkl
     simp only [go_sem,TmOK,DM,DMs,CM,CMs,forall_eq,exists_eq_left,Mq,HpOK,LowOK,hOf]
     simp [CMs_I,g1,hkl,upd,CMs.kf (stC_kf _)]
     exact ⟨g2,g3⟩
    by_cases hk3:k=3
    ·subst hk3
     obtain ⟨a,rfl,hs,ha,_,_⟩:=CtL.read_kid hsh
     have hT0:linK (linE ar pc d) vs [a]=(vs,[],[a]):=by simp [linK,CtL.lin_atom hs ha]
     have hE:=CtL.lin_read (ar:=ar) (pc:=pc) (vs:=vs) (v:=v) hs ha
     rw [hT0]
     have hla0:=labelIO vs ar (by omega) (by omega) h1 h2 d a hs
     have hle:=labN_le h1 h2 d a
     have hla2:=labelIO vs ar (by omega) (by omega) h1 h2 (d+1) _ hsh
     have hle2:=labN_le h1 h2 (d+1) (.mk 3 v [a])
     have hse:=labelSecretI (labN vs ar d a) hle
     clear hTs hkl hl3i hTm
     obtain ⟨k0,v0,s0⟩:=a
     have hx0:[Ex.mk k0 v0 s0][0]? = some (.mk k0 v0 s0):=rfl
     generalize labN vs ar d (.mk k0 v0 s0)=l0 at *
     generalize labN vs ar (d+1) (.mk 3 v [.mk k0 v0 s0])=l1 at *
     generalize hb0:secL l0=b0 at *
     cases b0 with
     | false =>
      rw [if_neg (by simp)] at hE
      rw [hE] at hR
      refine drvL Tryz.func149 ?_
      simp only [go_sem,hn]
      iterate 6 ((try (refine drvZ Tryz.func149 ?_;simp only [go_sem,hn]));((with_reducible and_intros)<;>try exact sd))
      refine XK.callT 3 false [5] hla0 ok91 (hhpG (by simp [HH,upd,hpL,renCs_I])) (hbT ()) (fun d h' ⟨_,e⟩=>by subst e;simp) ?_ (fun _=>⟨by kernel_rfl,_,_,⟨rfl,rfl⟩,by simp⟩)
      rintro _ _ ⟨rfl,rfl⟩ _
      iterate 4 ((try (refine drvZ Tryz.func149 ?_;simp only [go_sem,renCs_I]));((with_reducible and_intros)<;>try exact sd);(try first | refine XK.p hse ok90 ?_ | refine XK.gp hse ok90 ?_))
      simp only [List.append_nil] at hR
      exact RetOb.lnA (R:=R) (V:=vs) (out:=out) (ka:=5) (kb:=6) (d' := .agg (Ex.cells (.mk 3 v [.mk k0 v0 s0]))) (by rw [← hR];exact ⟨rfl,rfl⟩) rfl rfl rfl rfl (fun _ _ _=>CMs.kf (stC_kf _)) rfl rfl (by decide) (by decide) (by decide) (by decide) (by decide) (fun _ _=>CMs.kf (ex_kf _))
     | true =>
      rw [if_pos rfl] at hE
      rw [hE] at hR
      have hfr:=freshI vs ar ((l1 ||| pc:Nat):Int) (by omega)
      have hor:=or3 hle2 hpc
      have c0:=constI 0
      have hr0:=elementI v (cE 0)
      have has0:=assignI vs.length (rdE v (cE 0))
      have cvw:=varI vs.length
      have c1:=fun k:Nat=>constI (k:Int)
      have hr1:=fun k:Nat=>elementI v (cE (k:Int))
      have hh1:=fun k:Nat=>isAtI (.mk k0 v0 s0) (k:Int)
      have hn1:=fun k:Nat=>chooseI (hitE (.mk k0 v0 s0) k) (rdE v (cE k)) (vE vs.length)
      have has1:=fun (k:Nat)=>assignI vs.length (selE (hitE (.mk k0 v0 s0) k) (rdE v (cE k)) (vE vs.length))
      have hst:=fun k (hk:k<4)=>show (readS vs.length v (.mk k0 v0 s0)).take (k+1)=(readS vs.length v (.mk k0 v0 s0)).take k++[if k=0 then asg vs.length (rdE v (cE 0)) else readN vs.length v (.mk k0 v0 s0) k] by
       have:k=0∨k=1∨k=2∨k=3:=by omega
       rcases this with rfl | rfl | rfl | rfl<;>rfl
      have hrl:(readS vs.length v (.mk k0 v0 s0)).length=4:=rfl
      simp only [cE,vE,rdE,hitE,bE,selE,Ex.cells,Ex.cellsL,asg,e0,St1.cells,St1.cellsL,List.cons_append,List.nil_append,List.length_cons,List.length_nil] at c0 hr0 has0 cvw c1 hr1 hh1 hn1 has1
      refine drvL Tryz.func149 ?_
      simp only [go_sem,hn]
      iterate 6 ((try (refine drvZ Tryz.func149 ?_;simp only [go_sem,hn]));((with_reducible and_intros)<;>try exact sd))
      refine XK.callT 3 false [5] hla0 ok91 (hhpG (by simp [HH,upd,hpL,renCs_I])) (hbT ()) (fun d h' ⟨_,e⟩=>by subst e;simp) ?_ (fun _=>⟨by kernel_rfl,_,_,⟨rfl,rfl⟩,by simp⟩)
      rintro _ _ ⟨rfl,rfl⟩ _
      iterate 4 ((try (refine drvZ Tryz.func149 ?_;simp only [go_sem,renCs_I]));((with_reducible and_intros)<;>try exact sd);(try first | refine XK.p hse ok90 ?_ | refine XK.gp hse ok90 ?_))
      refine XK.callG [5] hla2 ok91 (hhpG (by simp [HH,upd,hpL,renCs_I])) (hbT ()) (fun d h' ⟨_,e⟩=>by subst e;simp) ?_ (fun _=>⟨by kernel_rfl,_,_,⟨rfl,rfl⟩,by simp⟩)
      rintro _ _ ⟨rfl,rfl⟩ _
      iterate 3 ((try (refine drvZ Tryz.func149 ?_;simp only [go_sem,renCs_I]));((with_reducible and_intros)<;>try exact sd))
      refine XK.callG [0,5] hfr ok154 (hhpG (by simp [HH,upd,hpL,renCs_I,renCs,renC,rk0,isI])) (hbT ()) (fun d h' ⟨_,e⟩=>by subst e;simp) ?_ (fun _=>⟨by kernel_rfl,_,_,⟨rfl,rfl⟩,by simp⟩)
      rintro _ _ ⟨rfl,rfl⟩ _
      obtain ⟨hp0,hpk⟩:=putL hcl
      iterate 6 ((try (refine drvZ Tryz.func149 ?_;simp only [go_sem,renCs_I,hcl,List.length_append,hp0,hpk,Nat.add_assoc]));((with_reducible and_intros)<;>try exact sd);(try first | refine XK.p c0 ok156 ?_ | refine XK.gp c0 ok156 ?_ | refine XK.p hr0 ok153 ?_ | refine XK.gp hr0 ok153 ?_ | refine XK.p has0 ok150 ?_ | refine XK.gp has0 ok150 ?_))
      refine Go.loopQ (fun k : Nat => [(0, .c (.ptr 0 0)), (3, .c (.ptr 2 0)), (5, .c (.ptr 4 0)), (8, .c (.ptr 68 0)), (9, .c (.ptr 452 0)), (12, DI .i64 vs.length), (13, DI .i64 k)])
       (fun k=>[(0,some [.msl 5 1 0 (vs.length+1),isI ar,.v (.slice none 0 0)]),(1,none),(2,some [.msl 6 11 0 (out++(readS vs.length v (.mk k0 v0 s0)).take k).length]),(3,none),(4,some (Ex.cells (.mk 3 v [.mk k0 v0 s0]))),(5,some ((vs++[((l1 ||| pc:Nat):Int)]).map I64)),(6,some (stC (out++(readS vs.length v (.mk k0 v0 s0)).take k))),
        (68,some [I64 0,I64 0,.v (.slice none 0 0)]),(452,some (Ex.cells (.mk 3 v [.mk k0 v0 s0])))])
       8192 (fun k=>1≤k∧k≤4) (fun k=>4 - k) ?_ 1 (fun j=>if j=5 then some 5760 else if j=6 then some 6592 else some j) [] _ (by omega) ?_
      ·rintro k ⟨hk1,hk4⟩ again
       rcases Nat.lt_or_ge k 4 with hlt | hge
       ·have hz:((k:Int)<4)=True:=eq_true (by omega)
        have hst:=hst k hlt
        rw [if_neg (by omega)] at hst
        have htl:((readS vs.length v (.mk k0 v0 s0)).take k).length=k:=by rw [List.length_take,hrl];omega
        have hlen2:(out++(readS vs.length v (.mk k0 v0 s0)).take k).length=out.length+k:=by rw [List.length_append,htl]
        have hcl2:=stC_len (out++(readS vs.length v (.mk k0 v0 s0)).take k)
        have hh1:=hh1 k
        have hn1:=hn1 k
        have hr1:=hr1 k
        have c1:=c1 k
        have has1:=has1 k
        generalize hO:out++(readS vs.length v (.mk k0 v0 s0)).take k=out2 at *
        obtain ⟨hp0,hpk⟩:=putL hcl2
        refine drvL Tryz.func149 ?_
        simp only [go_sem,hz]
        iterate 9 ((try (refine drvZ Tryz.func149 ?_;simp only [go_sem,hz,hcl2,List.length_append,hp0,hpk,Nat.add_assoc]));((with_reducible and_intros)<;>try exact sd);(try first | refine XK.p hh1 ok155 ?_ | refine XK.gp hh1 ok155 ?_ | refine XK.p c1 ok156 ?_ | refine XK.gp c1 ok156 ?_ | refine XK.p hr1 ok153 ?_ | refine XK.gp hr1 ok153 ?_ | refine XK.p cvw ok152 ?_ | refine XK.gp cvw ok152 ?_ | refine XK.p hn1 ok157 ?_ | refine XK.gp hn1 ok157 ?_ | refine XK.p has1 ok150 ?_ | refine XK.gp has1 ok150 ?_))
        refine again (k+1) (fun j=>if j=6 then some 9664 else some j) [] _ ⟨by omega,by omega⟩ (by omega) ?_
        rw [hst,← List.append_assoc,hO]
        simp only [go_sem,TmOK,DM,DMs,CM,CMs,forall_eq,exists_eq_left,Mq,HpOK,LowOK,stC_snoc,List.length_append]
        simp [-List.map_append,readN,asg,e0,selE,hitE,bE,rdE,cE,vE,St1.cells,St1.cellsL,Ex.cells,Ex.cellsL,CMs_I]
        exact CMs.app (CMs.kf (stC_kf _)) (by simp [CMs,CM,asg,e0,selE,hitE,bE,rdE,cE,vE,St1.cells,St1.cellsL,Ex.cells,Ex.cellsL])
       ·obtain rfl:k=4:=by omega
        have htl:(readS vs.length v (.mk k0 v0 s0)).take 4=(readS vs.length v (.mk k0 v0 s0)):=rfl
        rw [htl]
        refine drvL Tryz.func149 ?_
        simp only [go_sem]
        iterate 5 ((try (refine drvZ Tryz.func149 ?_;simp only [go_sem]));((with_reducible and_intros)<;>try exact sd);(try first | refine XK.p cvw ok152 ?_ | refine XK.gp cvw ok152 ?_))
        exact RetOb.lnA (R:=R) (V:=vs++[((l1 ||| pc:Nat):Int)]) (out:=out++readS vs.length v (.mk k0 v0 s0)) (ka:=5) (kb:=6) (d' := .agg (Ex.cells (vE vs.length))) (by rw [← hR];exact ⟨rfl,rfl⟩) rfl rfl rfl rfl (fun _ _ _=>CMs.kf (stC_kf _)) (by simp) rfl (by decide) (by decide) (by decide) (by decide) (by decide) (fun _ _=>CMs.kf (ex_kf _))
      ·simp only [go_sem,TmOK,DM,DMs,CM,CMs,forall_eq,exists_eq_left,Mq,HpOK,LowOK]
       simp [-List.map_append,readS]
       simp [-List.map_append,stC_snoc,asg,e0,selE,hitE,bE,rdE,cE,vE,St1.cells,St1.cellsL,Ex.cells,Ex.cellsL,CMs_I]
       exact CMs.app (CMs.kf (stC_kf _)) (by simp [CMs,CM,asg,e0,selE,hitE,bE,rdE,cE,vE,St1.cells,St1.cellsL,Ex.cells,Ex.cellsL])
    ·have hE:linE ar pc (d+1) vs (.mk k v ks)=((linK (linE ar pc d) vs ks).1,(linK (linE ar pc d) vs ks).2.1,.mk k v (linK (linE ar pc d) vs ks).2.2):=by
      rw [linE,if_neg (by simp [hk3])]
     rw [hE] at hR
     generalize linK (linE ar pc d) vs ks=T at *
     obtain ⟨vi,oi,ki⟩:=T
     have hne:(k != 3)=true:=by simp [hk3]
     have hne':(k=3)=False:=eq_false hk3
     have hkl:ki.length=ks.length:=hkl
     rcases hk0:ki[0]? with _ | ⟨a0,a1,a2⟩
     all_goals
      refine drvL Tryz.func149 ?_
      simp only [go_sem,hn]
      iterate 6 ((try (refine drvZ Tryz.func149 ?_;simp only [go_sem,hn,hne,hne',hk0]));((with_reducible and_intros)<;>try exact sd);(try first | refine XK.gs (DB false) ?_))
      exact RetOb.lnA (R:=R) (V:=vi) (out:=out++oi) (ka:=5) (kb:=6) (d' := .agg (Ex.cells (.mk k v ki))) (by rw [← hR];exact ⟨rfl,rfl⟩) rfl rfl rfl rfl (fun _ _ _=>CMs.kf (stC_kf _)) rfl rfl (by decide) (by decide) (by decide) (by decide) (by decide) (fun _ _=>CMs.kf (ex_kf _))
  ·simp only [go_sem,TmOK,DM,DMs,CM,CMs,forall_eq,exists_eq_left,Mq,HpOK,LowOK]
   simp [linK,exC]
   first | exact CMs.kf (stC_kf _) | exact ⟨CMs_I _,CMs.kf (stC_kf _)⟩ | (simp [CMs_I];exact CMs.kf (stC_kf _))
end Go.Proofs.YtmjkgjkkpaephaaGreat.CtD
