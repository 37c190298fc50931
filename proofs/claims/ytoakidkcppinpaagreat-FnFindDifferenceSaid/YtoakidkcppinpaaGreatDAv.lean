/- Contracts of functions of the program, one behind the other, as plain data: what each call returns and which blocks it leaves. -/
import Derived.Test.YtoakidkcppinpaaGreatDFacts
import Derived.Test.YtoakidkcppinpaaGreatDAi
import Derived.Test.YtoakidkcppinpaaGreatDAl
import Derived.Test.YtoakidkcppinpaaGreatDAo
import Derived.Test.YtoakidkcppinpaaGreatDAp
import Derived.Test.YtoakidkcppinpaaGreatDAq
import Derived.Test.YtoakidkcppinpaaGreatDAt
import Derived.Test.YtoakidkcppinpaaGreatDAu
import Derived.Test.YtoakidkcppinpaaGreatDAn
import Derived.Test.YtoakidkcppinpaaGreatDAs
import Derived.Test.YtoakidkcppinpaaGreatDAm
set_option linter.unusedVariables false
set_option linter.unusedSimpArgs false
set_option linter.unusedSectionVars false
set_option maxHeartbeats 16000000
set_option maxRecDepth 100000
namespace Go.Proofs.YtoakidkcppinpaaGreat.CtD
open Go Go.CT CtF CtR
variable [Yn]
open CtL (e0 cE vE rdE bE selE hitE asg sto maskE readN readS stoN stoS linK lab1 linE linB linO maskS linI linS linQ linP)
theorem linK_snoc {f : List Int → Ex → List Int × List St1 × Ex} : ∀ (l : List Ex) (vs : List Int) (x : Ex), linK f vs (l ++ [x]) = ((f (linK f vs l).1 x).1, (linK f vs l).2.1 ++ (f (linK f vs l).1 x).2.1, (linK f vs l).2.2 ++ [(f (linK f vs l).1 x).2.2])
 | [],vs,x=>by simp [linK]
 | e :: r,vs,x=>by simp only [List.cons_append,linK,linK_snoc r,List.append_assoc]
theorem linK_len {f : List Int → Ex → List Int × List St1 × Ex} : ∀ (l : List Ex) (vs : List Int), (linK f vs l).2.2.length = l.length
 | [],vs=>rfl
 | e :: r,vs=>by simp only [linK,List.length_cons,linK_len r]
theorem lab3_app {a b:List Int} (h:lab3 a) (g:lab3 b):lab3 (a++b):=fun x hx=>(List.mem_append.1 hx).elim (h x) (g x)
theorem lab3_lab1 {a b:Nat} (h:a≤3) (g:b≤3):lab3 (lab1 a b):=fun x hx=>by
 simp only [lab1,List.mem_singleton] at hx
 have:=or3 h g
 omega
theorem linE_lab3 {ar : List Int} {pc : Nat} (hp : pc ≤ 3) (h2 : lab3 ar) : ∀ (d : Nat) (vs : List Int) (e : Ex), lab3 vs → lab3 (linE ar pc d vs e).1
 | 0,vs,e,h=>h
 | d+1,vs,.mk k v ks,h=>by
  have hk:∀ (l:List Ex) (vs:List Int),lab3 vs→lab3 (linK (linE ar pc d) vs l).1:=by
   intro l
   induction l with
   | nil=>intro vs h;exact h
   | cons a r ih=>intro vs h;simp only [linK];exact ih _ (linE_lab3 hp h2 d vs a h)
  simp only [linE]
  split
  ·exact lab3_app (hk ks vs h) (lab3_lab1 (labN_le (hk ks vs h) h2 _ _) hp)
  ·exact hk ks vs h
theorem labelL (vs ar : List Int) (hl : vs.length ≤ mx) (hl2 : ar.length ≤ mx) (h1 : lab3 vs) (h2 : lab3 ar) (d : Nat) (e : Ex) (hs : CtR.shape ⟨vs, ar, []⟩ d e = true) :
 DC Tryz.prog 126 [.agg [isI vs,isI ar,.v (.slice none 0 0)],.agg e.cells] [] (fun r h=>r=DI .i64 (labN vs ar d e)∧h=[]) :=
 DC.nilAgg [] [.agg e.cells] 11 [isI vs,isI ar] [] (labelS ⟨vs,ar,[]⟩ hl hl2 h1 h2 d e hs)
theorem RetOb.linO {R : D → List (Option (List C)) → Prop} {V ar : List Int} {out' : List St1} {ek ev : Int} {eks : List Ex} {hp : Hp} {kt j n n2 : Nat} {cs cs2 : List C}
 (hR:R (.tup [.agg [isI V,isI ar,.v (.slice none 0 0),.msl 1 11 0 out'.length],.agg (Ex.cells (.mk ek ev eks))]) [none,some (stC out')])
 (h:hp kt=some (some cs)) (hc:cs=stC out') (hn:n=out'.length) (hk:1≤kt) (h2:hp j=some (some cs2)) (hc2:cs2=exC eks) (hn2:n2=eks.length) (hne:kt ≠ j) :
 RetOb 1 R (.tup [.agg [isI V,isI ar,.v (.slice none 0 0),.msl kt 11 0 n],.agg [I64 ek,I64 ev,.msl j 3 0 n2]]) hp:=by
 subst hc hn hc2 hn2
 refine RetOb.ofQ (fun j=>if j=1 then some kt else some j) [j] (.tup [.agg [isI V,isI ar,.v (.slice none 0 0),.msl 1 11 0 out'.length],.agg (Ex.cells (.mk ek ev eks))]) [none,some (stC out')] ?_ hR (by simp)
 have g1:(Ex.cellsL eks).flatten=exC eks:=by rw [Ex.cellsL_eq];rfl
 have g2:∀ x ∈ Ex.cellsL eks,x.length=3:=fun x hx=>by rw [Ex.cellsL_eq] at hx;obtain ⟨e,_,rfl⟩:=List.mem_map.1 hx;exact Ex.cells_len e
 have g3:∀ x ∈ Ex.cellsL eks,∀ c ∈ x,kf c=true:=fun x hx=>by rw [Ex.cellsL_eq] at hx;obtain ⟨e,_,rfl⟩:=List.mem_map.1 hx;exact ex_kf e
 simp [enumL,hOf,DM,DMs,CM,CMs,HpOK,LowOK,upd,isI,Ex.cells,Ex.cellsL_length,g1,h,h2,hne,CMs.kf (stC_kf _)]
 exact ⟨g2,g3⟩
theorem RetOb.linP {R : D → List (Option (List C)) → Prop} {V ar : List Int} {out' : List St1} {ce : List C} {hp : Hp} {kt n : Nat} {cs : List C}
 (hR:R (.tup [.agg [isI V,isI ar,.v (.slice none 0 0),.msl 1 11 0 out'.length],.agg ce]) [none,some (stC out')])
 (h:hp kt=some (some cs)) (hc:cs=stC out') (hn:n=out'.length) (hk:1≤kt) (hce:∀ c ∈ ce,kf c=true) :
 RetOb 1 R (.tup [.agg [isI V,isI ar,.v (.slice none 0 0),.msl kt 11 0 n],.agg ce]) hp:=by
 subst hc hn
 refine RetOb.ofQ (fun j=>if j=1 then some kt else some j) [] (.tup [.agg [isI V,isI ar,.v (.slice none 0 0),.msl 1 11 0 out'.length],.agg ce]) [none,some (stC out')] ?_ hR (by simp)
 simp [enumL,hOf,DM,DMs,CM,CMs,HpOK,LowOK,upd,isI,h,CMs.kf (stC_kf _),CMs.kf hce]
open CtL (e0 cE vE rdE bE selE hitE asg sto maskE readN readS stoN stoS linK lab1 linE linB linO maskS linI linS linQ linP)
theorem exprS (ar:List Int) (pc:Nat) (hpc:pc≤3) (h2:lab3 ar) (hla:ar.length≤1048576):∀ (d:Nat) (e:Ex) (vs:List Int) (out:List St1),CtR.shape ⟨vs,ar,[]⟩ d e=true→lab3 vs→vs.length+cnt d e≤1048576→out.length+4 * cnt d e≤1048576 →
 DC Tryz.prog 121 [.agg [isI vs, isI ar, .v (.slice none 0 0), .msl 0 11 0 out.length], .agg e.cells, DI .i64 pc] [some (stC out)]
  (fun r h=>r = .tup [.agg [isI (linE ar pc d vs e).1,isI ar,.v (.slice none 0 0),.msl 1 11 0 (out++(linE ar pc d vs e).2.1).length],.agg (linE ar pc d vs e).2.2.cells]∧h=[none,some (stC (out++(linE ar pc d vs e).2.1))]):=by
 have hmx:=mx_eq
 intro d
 induction d with
 | zero=>intro e vs out h;simp [CtR.shape] at h
 | succ d ih =>
  intro e vs out hsh h1 hlv hlo
  obtain ⟨k,v,ks⟩:=e
  obtain ⟨g1,g2,g3⟩:=shape_succ hsh
  obtain ⟨hl3,hlar,hv0,hv1⟩:=fits_len g1
  have hcl:=stC_len out
  generalize hR:(fun (r:D) (h:List (Option (List C)))=>r = .tup [.agg [isI (linE ar pc (d+1) vs (.mk k v ks)).1,isI ar,.v (.slice none 0 0),.msl 1 11 0 (out++(linE ar pc (d+1) vs (.mk k v ks)).2.1).length],.agg (linE ar pc (d+1) vs (.mk k v ks)).2.2.cells]∧h=[none,some (stC (out++(linE ar pc (d+1) vs (.mk k v ks)).2.1))])=R
  refine dcZ Tryz.func121 ?_
  simp only [go_sem]
  iterate 3 ((try (refine drvZ Tryz.func121 ?_;simp only [go_sem]));((with_reducible and_intros)<;>try exact sd))
  have hT:∀ i x,ks[i]? = some x→linK (linE ar pc d) vs (ks.take (i+1))=((linE ar pc d (linK (linE ar pc d) vs (ks.take i)).1 x).1,(linK (linE ar pc d) vs (ks.take i)).2.1++(linE ar pc d (linK (linE ar pc d) vs (ks.take i)).1 x).2.1,(linK (linE ar pc d) vs (ks.take i)).2.2++[(linE ar pc d (linK (linE ar pc d) vs (ks.take i)).1 x).2.2]):=fun i x hx=>by
   rw [List.take_add_one,hx];exact linK_snoc _ _ _
  have hTl:∀ i,i≤ks.length→(linK (linE ar pc d) vs (ks.take i)).2.2.length=i:=fun i hi=>by rw [linK_len,List.length_take];omega
  have hTs:∀ i,(linK (linE ar pc d) vs (ks.take i)).1.length≤vs.length+tsum (cnt d) ks i∧(linK (linE ar pc d) vs (ks.take i)).2.1.length≤4 * tsum (cnt d) ks i:=fun i=>CtL.linK_sz (fun vs e=>CtL.linE_sz d vs e) (ks.take i) vs
  have hT3:∀ i,lab3 (linK (linE ar pc d) vs (ks.take i)).1:=fun i=>by
   have:∀ (l:List Ex) (vs:List Int),lab3 vs→lab3 (linK (linE ar pc d) vs l).1:=by
    intro l
    induction l with
    | nil=>intro vs h;exact h
    | cons a r ih=>intro vs h;simp only [linK];exact ih _ (linE_lab3 hpc h2 d vs a h)
   exact this _ _ h1
  have hTm:∀ i,vs.length≤(linK (linE ar pc d) vs (ks.take i)).1.length:=fun i=>CtL.more_le (CtL.linK_ok (q:=⟨[],ar,[]⟩) (ks.take i) vs (fun x hx=>g2 x (List.mem_of_mem_take hx)) fun vs e hs=>CtL.linE_ok (ar:=ar) (q:=⟨[],ar,[]⟩) rfl pc d vs e hs).more
  have hsum:=fun i=>tsum_le (cnt d) ks i
  have hcn:cnt (d+1) (.mk k v ks)=1+(ks.map (cnt d)).sum:=rfl
  refine Go.loopQ (fun i : Nat => [(2, DI .i64 pc), (3, .c (.ptr 1 0)), (4, .c (.ptr 65 0)), (6, .c (.ptr 129 0)), (7, .c (.ptr 193 0)), (8, .c (.ptr 577 0)), (9, DI .i64 i)])
   (fun i=>[(0,none),(1,some [isI (linK (linE ar pc d) vs (ks.take i)).1,isI ar,.v (.slice none 0 0),.msl 2 11 0 (out++(linK (linE ar pc d) vs (ks.take i)).2.1).length]),(2,some (stC (out++(linK (linE ar pc d) vs (ks.take i)).2.1))),
    (3,some (exC (linK (linE ar pc d) vs (ks.take i)).2.2)),(65,some (Ex.cells (.mk k v ks))),(129,some [.v (.slice none 0 0),.v (.slice none 0 0),.v (.slice none 0 0),.v (.slice none 0 0)]),(193,some [I64 0,I64 0,.v (.slice none 0 0)]),(577,some [I64 k,I64 v,.msl 3 3 0 i])])
   4096 (fun i=>i≤ks.length) (fun i=>ks.length - i) ?_ 0 (fun j=>if j=2 then some 0 else if j=3 then none else some j) [] _ (Nat.zero_le _) ?_
  ·intro i hi again
   rcases Nat.lt_or_ge i ks.length with hlt | hge
   ·obtain ⟨⟨k',v',ks'⟩,hx⟩:∃ x,ks[i]? = some x:=⟨ks[i],by simp [hlt]⟩
    have hTi:=hT i _ hx
    have hsz:=hTs i
    have hsu:=hsum (i+1)
    rw [tsum_succ (cnt d) ks i _ hx] at hsu
    have hl3i:=hT3 i
    have hsx:=CtL.shape_mono (p:=⟨vs,ar,[]⟩) (q:=⟨(linK (linE ar pc d) vs (ks.take i)).1,ar,[]⟩) (hTm i) rfl d _ (g2 _ (List.mem_of_getElem? hx))
    have hkl:=hTl i hi
    have hsz2:=hTs (i+1)
    rw [hTi] at hsz2
    generalize linK (linE ar pc d) vs (ks.take i)=T at *
    obtain ⟨vi,oi,ki⟩:=T
    simp only at hTi hsz hl3i hsx hkl hsz2
    have hic:=ih (.mk k' v' ks') vi (out++oi) hsx hl3i (by omega) (by rw [List.length_append];omega)
    generalize linE ar pc d vi (.mk k' v' ks')=E at *
    obtain ⟨vj,oj,⟨ek,ev,eks⟩⟩:=E
    simp only at hTi hic hsz2
    have hel:=exC_len ki
    have hcl2:=stC_len (out++oi)
    refine drvL Tryz.func121 ?_
    simp only [go_sem,hx,hlt]
    iterate 2 ((try (refine drvZ Tryz.func121 ?_;simp only [go_sem,hx,hlt]));((with_reducible and_intros)<;>try exact sd))
    refine XK.callG [2] hic ok121 (hhpG (by simp [HH,upd,renCs_stC])) (hbT ()) (fun d h' ⟨_,e⟩=>by subst e;simp) ?_ (fun _=>⟨by kernel_rfl,_,_,⟨rfl,rfl⟩,by simp⟩)
    rintro _ _ ⟨rfl,rfl⟩ _
    iterate 5 ((try (refine drvZ Tryz.func121 ?_;simp only [go_sem,renCs_stC,hel]));((with_reducible and_intros)<;>try exact sd))
    refine again (i+1) (fun j=>if j=2 then some 5056 else if j=3 then some 5696 else some j) [] _ hlt (by omega) ?_
    simp only [go_sem,TmOK,DM,DMs,CM,CMs,forall_eq,exists_eq_left,Mq,HpOK,LowOK,hTi,exC_snoc]
    simp
    refine ⟨CMs.kf (stC_kf _),CMs.kf (kf_app (exC_kf _) (by simp [kf]))⟩
   ·have hn:¬ i<ks.length:=by omega
    obtain rfl:i=ks.length:=by omega
    have hTs:=hTs ks.length
    have hkl:=hTl ks.length (Nat.le_refl _)
    have hl3i:=hT3 ks.length
    have hTm:=hTm ks.length
    clear ih hT hTl hT3 again
    rw [List.take_length] at hTs hkl hl3i hTm
    simp only [List.take_length]
    by_cases hk3:k=3
    ·subst hk3
     obtain ⟨a,rfl,hs,ha,_,_⟩:=CtL.read_kid hsh
     have hT0:linK (linE ar pc d) vs [a]=(vs,[],[a]):=by simp [linK,CtL.lin_atom hs ha]
     have hE:=CtL.lin_read (ar:=ar) (pc:=pc) (vs:=vs) (v:=v) hs ha
     rw [hT0]
     have hla:=labelL vs ar (by omega) (by omega) h1 h2 d a hs
     have hle:=labN_le h1 h2 d a
     have hla2:=labelL vs ar (by omega) (by omega) h1 h2 (d+1) _ hsh
     have hle2:=labN_le h1 h2 (d+1) (.mk 3 v [a])
     have hse:=labelSecretS (labN vs ar d a) hle
     obtain ⟨k0,v0,s0⟩:=a
     have hx0:[Ex.mk k0 v0 s0][0]? = some (.mk k0 v0 s0):=rfl
     generalize labN vs ar d (.mk k0 v0 s0)=l0 at *
     generalize labN vs ar (d+1) (.mk 3 v [.mk k0 v0 s0])=l1 at *
     generalize hb0:secL l0=b0 at *
     cases b0 with
     | false =>
      rw [if_neg (by simp)] at hE
      rw [hE] at hR
      refine drvL Tryz.func121 ?_
      simp only [go_sem,hn]
      iterate 5 ((try (refine drvZ Tryz.func121 ?_;simp only [go_sem,hn]));((with_reducible and_intros)<;>try exact sd);(try first | refine XK.p hla ok126 ?_ | refine XK.gp hla ok126 ?_ | refine XK.p hse ok125 ?_ | refine XK.gp hse ok125 ?_))
      exact RetOb.linO (R:=R) (out':=out++[]) (eks:=[.mk k0 v0 s0]) (cs:=stC out) (by rw [← hR];exact ⟨rfl,rfl⟩) (by simp [upd]) (by simp) (by simp) (by omega) (by simp [upd]) rfl rfl (by omega)
     | true =>
      rw [if_pos rfl] at hE
      rw [hE] at hR
      have hfr:=freshS vs ar out ((l1 ||| pc:Nat):Int) (by omega) (by omega)
      have hor:=or3 hle2 hpc
      have c0:=constS 0
      have hr0:=readS1 v (cE 0)
      have has0:=asgS (vs++[((l1 ||| pc:Nat):Int)]) ar out vs.length (rdE v (cE 0)) (by omega)
      have cvw:=varS vs.length
      have c1:=fun k:Nat=>constS (k:Int)
      have hr1:=fun k:Nat=>readS1 v (cE (k:Int))
      have hh1:=fun k:Nat=>hitS (.mk k0 v0 s0) (k:Int)
      have hn1:=fun k:Nat=>nodeS 11 [hitE (.mk k0 v0 s0) k,rdE v (cE k),vE vs.length]
      have has1:=fun (out:List St1) (h:out.length≤1048576) (k:Nat)=>asgS (vs++[((l1 ||| pc:Nat):Int)]) ar out vs.length (selE (hitE (.mk k0 v0 s0) k) (rdE v (cE k)) (vE vs.length)) h
      have hst:=fun k (hk:k<4)=>show (readS vs.length v (.mk k0 v0 s0)).take (k+1)=(readS vs.length v (.mk k0 v0 s0)).take k++[if k=0 then asg vs.length (rdE v (cE 0)) else readN vs.length v (.mk k0 v0 s0) k] by
       have:k=0∨k=1∨k=2∨k=3:=by omega
       rcases this with rfl | rfl | rfl | rfl<;>rfl
      have hrl:(readS vs.length v (.mk k0 v0 s0)).length=4:=rfl
      simp only [exC3] at hn1
      simp only [cE,vE,rdE,hitE,bE,selE,Ex.cells,Ex.cellsL,List.cons_append,List.nil_append,List.length_cons,List.length_nil] at c0 hr0 has0 cvw c1 hr1 hh1 hn1 has1
      refine drvL Tryz.func121 ?_
      simp only [go_sem,hn]
      iterate 4 ((try (refine drvZ Tryz.func121 ?_;simp only [go_sem,hn]));((with_reducible and_intros)<;>try exact sd);(try first | refine XK.p hla ok126 ?_ | refine XK.gp hla ok126 ?_ | refine XK.p hse ok125 ?_ | refine XK.gp hse ok125 ?_))
      iterate 3 ((try (refine drvZ Tryz.func121 ?_;simp only [go_sem,hn]));((with_reducible and_intros)<;>try exact sd);(try first | refine XK.p hla2 ok126 ?_ | refine XK.gp hla2 ok126 ?_))
      refine XK.callG [2] hfr ok144 (hhpG (by simp [HH,upd,renCs_stC])) (hbT ()) (fun d h' ⟨_,e⟩=>by subst e;simp) ?_ (fun _=>⟨by kernel_rfl,_,_,⟨rfl,rfl⟩,by simp⟩)
      rintro _ _ ⟨rfl,rfl⟩ _
      iterate 4 ((try (refine drvZ Tryz.func121 ?_;simp only [go_sem,renCs_stC]));((with_reducible and_intros)<;>try exact sd);(try first | refine XK.p c0 ok145 ?_ | refine XK.gp c0 ok145 ?_ | refine XK.p hr0 ok129 ?_ | refine XK.gp hr0 ok129 ?_))
      refine XK.callG [2] has0 ok122 (hhpG (by simp [HH,upd,renCs_stC])) (hbT ()) (fun d h' ⟨_,e⟩=>by subst e;simp) ?_ (fun _=>⟨by kernel_rfl,_,_,⟨rfl,rfl⟩,by simp⟩)
      rintro _ _ ⟨rfl,rfl⟩ _
      iterate 3 ((try (refine drvZ Tryz.func121 ?_;simp only [go_sem,renCs_stC]));((with_reducible and_intros)<;>try exact sd))
      refine Go.loopQ (fun k : Nat => [(3, .c (.ptr 1 0)), (4, .c (.ptr 65 0)), (6, .c (.ptr 129 0)), (7, .c (.ptr 193 0)), (11, DI .i64 vs.length), (12, DI .i64 k)])
       (fun k=>[(0,none),(1,some [isI (vs++[((l1 ||| pc:Nat):Int)]),isI ar,.v (.slice none 0 0),.msl 2 11 0 (out++(readS vs.length v (.mk k0 v0 s0)).take k).length]),(2,some (stC (out++(readS vs.length v (.mk k0 v0 s0)).take k))),
        (65,some (Ex.cells (.mk 3 v [.mk k0 v0 s0]))),(129,some [.v (.slice none 0 0),.v (.slice none 0 0),.v (.slice none 0 0),.v (.slice none 0 0)]),(193,some [I64 0,I64 0,.v (.slice none 0 0)])])
       8192 (fun k=>1≤k∧k≤4) (fun k=>4 - k) ?_ 1 (fun j=>if j=2 then some 6592 else some j) [] _ ⟨Nat.le_refl _,by omega⟩ ?_
      ·rintro k ⟨hk1,hk4⟩ again
       rcases Nat.lt_or_ge k 4 with hlt | hge
       ·have hz:((k:Int)<4)=True:=eq_true (by omega)
        have hst:=hst k hlt
        rw [if_neg (by omega)] at hst
        have htl:((readS vs.length v (.mk k0 v0 s0)).take k).length=k:=by rw [List.length_take,hrl];omega
        have has1:=has1 (out++(readS vs.length v (.mk k0 v0 s0)).take k) (by rw [List.length_append,htl];omega) k
        have hh1:=hh1 k
        have hn1:=hn1 k
        have hr1:=hr1 k
        have c1:=c1 k
        refine drvL Tryz.func121 ?_
        simp only [go_sem,hz]
        iterate 6 ((try (refine drvZ Tryz.func121 ?_;simp only [go_sem,hz]));((with_reducible and_intros)<;>try exact sd);(try first | refine XK.p hh1 ok147 ?_ | refine XK.gp hh1 ok147 ?_ | refine XK.p c1 ok145 ?_ | refine XK.gp c1 ok145 ?_ | refine XK.p hr1 ok129 ?_ | refine XK.gp hr1 ok129 ?_ | refine XK.p cvw ok124 ?_ | refine XK.gp cvw ok124 ?_))
        refine XK.callG [9280] hn1 ok146 (hhpG (by simp [HH,upd,renCs,renC])) (hbT ()) (fun d h' ⟨_,e⟩=>by subst e;simp) ?_ (fun _=>⟨by kernel_rfl,_,_,⟨rfl,rfl⟩,by simp⟩)
        rintro _ _ ⟨rfl,rfl⟩ _
        ((try (refine drvZ Tryz.func121 ?_;simp only [go_sem,hz]));((with_reducible and_intros)<;>try exact sd))
        refine XK.callG [2] has1 ok122 (hhpG (by simp [HH,upd,renCs_stC])) (hbT ()) (fun d h' ⟨_,e⟩=>by subst e;simp) ?_ (fun _=>⟨by kernel_rfl,_,_,⟨rfl,rfl⟩,by simp⟩)
        rintro _ _ ⟨rfl,rfl⟩ _
        iterate 3 ((try (refine drvZ Tryz.func121 ?_;simp only [go_sem,renCs_stC]));((with_reducible and_intros)<;>try exact sd))
        refine again (k+1) (fun j=>if j=2 then some 9408 else some j) [] _ ⟨by omega,by omega⟩ (by omega) ?_
        rw [hst,← List.append_assoc]
        simp only [go_sem,TmOK,DM,DMs,CM,CMs,forall_eq,exists_eq_left,Mq,HpOK,LowOK,readN,selE,hitE,bE,cE,rdE,vE]
        simp
        exact CMs.kf (stC_kf _)
       ·obtain rfl:k=4:=by omega
        have htl:(readS vs.length v (.mk k0 v0 s0)).take 4=readS vs.length v (.mk k0 v0 s0):=rfl
        rw [htl]
        refine drvL Tryz.func121 ?_
        simp only [go_sem]
        iterate 4 ((try (refine drvZ Tryz.func121 ?_;simp only [go_sem]));((with_reducible and_intros)<;>try exact sd);(try first | refine XK.p cvw ok124 ?_ | refine XK.gp cvw ok124 ?_))
        exact RetOb.linP (R:=R) (out':=out++readS vs.length v (.mk k0 v0 s0)) (by rw [← hR];exact ⟨rfl,rfl⟩) (by simp [upd]) rfl rfl (by omega) (by simp [kf])
      ·have ht1:(readS vs.length v (.mk k0 v0 s0)).take 1=[asg vs.length (.mk 3 v [.mk 1 0 []])]:=rfl
       rw [ht1]
       simp only [go_sem,TmOK,DM,DMs,CM,CMs,forall_eq,exists_eq_left,Mq,HpOK,LowOK]
       simp [CMs.kf (stC_kf _)]
    ·have hE:linE ar pc (d+1) vs (.mk k v ks)=((linK (linE ar pc d) vs ks).1,(linK (linE ar pc d) vs ks).2.1,.mk k v (linK (linE ar pc d) vs ks).2.2):=by rw [linE,if_neg (fun h=>hk3 h.1)]
     rw [hE] at hR
     generalize linK (linE ar pc d) vs ks=T at *
     obtain ⟨vi,oi,ki⟩:=T
     simp only at hR hTs hkl hl3i hTm
     have e3:(k != 3)=true:=by simp [hk3]
     rcases hx0:ks[0]? with _ | ⟨k0,v0,s0⟩
     all_goals
      refine drvL Tryz.func121 ?_
      simp only [go_sem,hn,e3,hx0]
      iterate 5 ((try (refine drvZ Tryz.func121 ?_;simp only [go_sem,hn,e3,hx0]));((with_reducible and_intros)<;>try exact sd);(try first | refine XK.gs (DI .i64 0) ?_ | refine XK.gs (DB false) ?_))
      exact RetOb.linO (R:=R) (out':=out++oi) (eks:=ki) (by rw [← hR];exact ⟨rfl,rfl⟩) (by simp [upd]) rfl rfl (by omega) (by simp [upd]) rfl hkl.symm (by omega)
  ·simp only [go_sem,TmOK,DM,DMs,CM,CMs,forall_eq,exists_eq_left,Mq,HpOK,LowOK]
   simp [linK,exC,CMs.kf (stC_kf _)]
open CtL (e0 cE vE rdE bE selE hitE asg sto maskE readN readS stoN stoS linK lab1 linE linB linO maskS linI linS linQ linP)
theorem RetOb.linS {R : D → List (Option (List C)) → Prop} {V ar : List Int} {out' : List St1} {hp : Hp} {kt n : Nat} {cs : List C}
 (hR:R (.agg [isI V,isI ar,.v (.slice none 0 0),.msl 1 11 0 out'.length]) [none,some (stC out')])
 (h:hp kt=some (some cs)) (hc:cs=stC out') (hn:n=out'.length) (hk:1≤kt) :
 RetOb 1 R (.agg [isI V,isI ar,.v (.slice none 0 0),.msl kt 11 0 n]) hp:=by
 subst hc hn
 refine RetOb.ofQ (fun j=>if j=1 then some kt else some j) [] (.agg [isI V,isI ar,.v (.slice none 0 0),.msl 1 11 0 out'.length]) [none,some (stC out')] ?_ hR (by simp)
 simp [enumL,hOf,DM,DMs,CM,CMs,HpOK,LowOK,upd,isI,h,CMs.kf (stC_kf _)]
theorem storeS (ar : List Int) (pc : Nat) (hpc : pc ≤ 3) (h2 : lab3 ar) (hla : ar.length ≤ 1048576) (mk : Int) (w t : Int) (ix v e : Ex) (c : Int) (b el : List St1) (vs : List Int) (out : List St1)
 (hsh:CtR.shape ⟨vs,ar,[]⟩ 5 e=true) (h1:lab3 vs) (hlv:vs.length+1≤1048576) (hlo:out.length+5≤1048576) :
 DC Tryz.prog 127 [.agg [isI vs, isI ar, .v (.slice none 0 0), .msl 0 11 0 out.length], .agg (St1.cells (.mk w t ix v c b el)), .agg e.cells, DI .i64 mk, DI .i64 pc] [some (stC out)]
  (fun r h=>r = .agg [isI (vs++lab1 (labN vs ar 5 e) pc),isI ar,.v (.slice none 0 0),.msl 1 11 0 (out++asg vs.length e :: stoS mk vs.length t ix).length]∧h=[none,some (stC (out++asg vs.length e :: stoS mk vs.length t ix))]):=by
 have hmx:=mx_eq
 have hcl:=stC_len out
 have hlab:=labelL vs ar (by omega) (by omega) h1 h2 5 e hsh
 have hle:=labN_le h1 h2 5 e
 have hor:=or3 hle hpc
 unfold lab1
 generalize labN vs ar 5 e=l at *
 have hfr:=freshS vs ar out ((l ||| pc:Nat):Int) (by omega) (by omega)
 have has0:=asgS (vs++[((l ||| pc:Nat):Int)]) ar out vs.length e (by omega)
 have cvw:=varS vs.length
 have c0:=constS 0
 have c1:=fun k:Nat=>constS (k:Int)
 have hr1:=fun k:Nat=>readS1 t (cE (k:Int))
 have hh1:=fun k:Nat=>hitS ix (k:Int)
 have hm1:=fun k:Nat=>maskES mk (hitE ix k) (cE 0)
 have hn1:=fun k:Nat=>nodeS 11 [maskE mk (hitE ix k) (cE 0),vE vs.length,rdE t (cE k)]
 have hst:=fun k (hk:k<4)=>show (stoS mk vs.length t ix).take (k+1)=(stoS mk vs.length t ix).take k++[stoN mk vs.length t ix k] by
  have:k=0∨k=1∨k=2∨k=3:=by omega
  rcases this with rfl | rfl | rfl | rfl<;>rfl
 have hrl:(stoS mk vs.length t ix).length=4:=rfl
 have hN:∀ k:Nat,stoN mk vs.length t ix k = .mk 2 t (.mk 1 k []) (.mk 11 0 [maskE mk (hitE ix k) (cE 0),vE vs.length,rdE t (cE k)]) 0 [] []:=fun k=>rfl
 obtain ⟨ik,iv,iks⟩:=ix
 obtain ⟨vk,vv,vks⟩:=v
 obtain ⟨ek,ev,eks⟩:=e
 simp only [exC3] at hn1
 generalize hM:maskE mk=M at *
 have hM2:∀ k:Nat,∃ k' v' s',M (hitE (.mk ik iv iks) k) (cE 0) = .mk k' v' s':=fun k=>by
  cases M (hitE (.mk ik iv iks) k) (cE 0) with | mk k' v' s'=>exact ⟨k',v',s',rfl⟩
 generalize hR:(fun (r:D) (h:List (Option (List C)))=>r = .agg [isI (vs++[((l ||| pc:Nat):Int)]),isI ar,.v (.slice none 0 0),.msl 1 11 0 (out++asg vs.length (.mk ek ev eks) :: stoS mk vs.length t (.mk ik iv iks)).length]∧h=[none,some (stC (out++asg vs.length (.mk ek ev eks) :: stoS mk vs.length t (.mk ik iv iks)))])=R
 simp only [cE,vE,rdE,hitE,bE,Ex.cells,Ex.cellsL,List.cons_append,List.nil_append,List.length_cons,List.length_nil] at c0 has0 cvw c1 hr1 hh1
 refine dcZ Tryz.func127 ?_
 simp only [go_sem]
 iterate 3 ((try (refine drvZ Tryz.func127 ?_;simp only [go_sem]));((with_reducible and_intros)<;>try exact sd);(try first | refine XK.p hlab ok126 ?_ | refine XK.gp hlab ok126 ?_))
 refine XK.callG [0] hfr ok144 (hhpG (by simp [HH,upd,hpL,renCs_stC])) (hbT ()) (fun d h' ⟨_,e⟩=>by subst e;simp) ?_ (fun _=>⟨by kernel_rfl,_,_,⟨rfl,rfl⟩,by simp⟩)
 rintro _ _ ⟨rfl,rfl⟩ _
 iterate 3 ((try (refine drvZ Tryz.func127 ?_;simp only [go_sem,renCs_stC]));((with_reducible and_intros)<;>try exact sd))
 refine XK.callG [0] has0 ok122 (hhpG (by simp [HH,upd,hpL,renCs_stC])) (hbT ()) (fun d h' ⟨_,e⟩=>by subst e;simp) ?_
 rintro _ _ ⟨rfl,rfl⟩ _
 iterate 3 ((try (refine drvZ Tryz.func127 ?_;simp only [go_sem,renCs_stC]));((with_reducible and_intros)<;>try exact sd))
 refine Go.loopQ (fun k : Nat => [(3, DI .i64 mk), (5, .c (.ptr 1 0)), (6, .c (.ptr 65 0)), (10, .c (.ptr 193 0)), (11, DI .i64 vs.length), (12, DI .i64 k)])
  (fun k=>[(0,none),(1,some [isI (vs++[((l ||| pc:Nat):Int)]),isI ar,.v (.slice none 0 0),.msl 2 11 0 (out++[asg vs.length (.mk ek ev eks)]++(stoS mk vs.length t (.mk ik iv iks)).take k).length]),(2,some (stC (out++[asg vs.length (.mk ek ev eks)]++(stoS mk vs.length t (.mk ik iv iks)).take k))),
   (65,some (St1.cells (.mk w t (.mk ik iv iks) (.mk vk vv vks) c b el))),(193,some [.v (.slice none 0 0),.v (.slice none 0 0),.v (.slice none 0 0),.v (.slice none 0 0)])])
  8192 (fun k=>k≤4) (fun k=>4 - k) ?_ 0 (fun j=>if j=2 then some 1345 else some j) [] _ (by omega) ?_
 ·intro k hk4 again
  rcases Nat.lt_or_ge k 4 with hlt | hge
  ·have hz:((k:Int)<4)=True:=eq_true (by omega)
   have hst:=hst k hlt
   have htl:((stoS mk vs.length t (.mk ik iv iks)).take k).length=k:=by rw [List.length_take,hrl];omega
   have hcl2:=stC_len (out++[asg vs.length (.mk ek ev eks)]++(stoS mk vs.length t (.mk ik iv iks)).take k)
   have hlen2:(out++[asg vs.length (.mk ek ev eks)]++(stoS mk vs.length t (.mk ik iv iks)).take k).length=out.length+1+k:=by rw [List.length_append,List.length_append,htl];rfl
   have hh1:=hh1 k
   have hn1:=hn1 k
   have hr1:=hr1 k
   have c1:=c1 k
   have hm1:=hm1 k
   have hN:=hN k
   obtain ⟨mk',mv',ms',hME⟩:=hM2 k
   rw [hME] at hm1 hn1 hN
   simp only [cE,vE,rdE,hitE,bE,Ex.cells,Ex.cellsL,List.cons_append,List.nil_append,List.length_cons,List.length_nil] at hm1 hn1
   generalize hO:out++[asg vs.length (.mk ek ev eks)]++(stoS mk vs.length t (.mk ik iv iks)).take k=out2 at *
   refine drvL Tryz.func127 ?_
   simp only [go_sem,hz]
   iterate 8 ((try (refine drvZ Tryz.func127 ?_;simp only [go_sem,hz]));((with_reducible and_intros)<;>try exact sd);(try first | refine XK.p hh1 ok147 ?_ | refine XK.gp hh1 ok147 ?_ | refine XK.p c0 ok145 ?_ | refine XK.gp c0 ok145 ?_ | refine XK.p hm1 ok123 ?_ | refine XK.gp hm1 ok123 ?_ | refine XK.p c1 ok145 ?_ | refine XK.gp c1 ok145 ?_ | refine XK.p hr1 ok129 ?_ | refine XK.gp hr1 ok129 ?_ | refine XK.p cvw ok124 ?_ | refine XK.gp cvw ok124 ?_))
   refine XK.callG [9408] hn1 ok146 (hhpG (by simp [HH,upd,renCs,renC])) (hbT ()) (fun d h' ⟨_,e⟩=>by subst e;simp) ?_ (fun _=>⟨by kernel_rfl,_,_,⟨rfl,rfl⟩,by simp⟩)
   rintro _ _ ⟨rfl,rfl⟩ _
   iterate 8 ((try (refine drvZ Tryz.func127 ?_;simp only [go_sem,hz,hcl2]));((with_reducible and_intros)<;>try exact sd);(try first | refine XK.p c1 ok145 ?_ | refine XK.gp c1 ok145 ?_))
   refine again (k+1) (fun j=>if j=2 then some 10240 else some j) [] _ (by omega) (by omega) ?_
   rw [hst,← List.append_assoc,hO,hN]
   simp only [go_sem,TmOK,DM,DMs,CM,CMs,forall_eq,exists_eq_left,Mq,HpOK,LowOK,stC_snoc,List.length_append]
   simp [vE,rdE,cE]
   exact CMs.app (CMs.kf (stC_kf _)) (by simp [CMs,CM,St1.cells,St1.cellsL,Ex.cells,Ex.cellsL])
  ·obtain rfl:k=4:=by omega
   have htl:(stoS mk vs.length t (.mk ik iv iks)).take 4=stoS mk vs.length t (.mk ik iv iks):=rfl
   rw [htl]
   refine drvL Tryz.func127 ?_
   simp only [go_sem]
   iterate 3 ((try (refine drvZ Tryz.func127 ?_;simp only [go_sem]));((with_reducible and_intros)<;>try exact sd))
   exact RetOb.linS (R:=R) (out':=out++asg vs.length (.mk ek ev eks) :: stoS mk vs.length t (.mk ik iv iks)) (cs:=stC (out++[asg vs.length (.mk ek ev eks)]++stoS mk vs.length t (.mk ik iv iks))) (by rw [← hR];exact ⟨rfl,rfl⟩) (by simp [upd]) (by simp) (by simp) (by omega)
 ·simp only [go_sem,TmOK,DM,DMs,CM,CMs,forall_eq,exists_eq_left,Mq,HpOK,LowOK]
  simp
  exact CMs.kf (stC_kf _)
open CtL (e0 cE vE rdE bE selE hitE asg sto maskE readN readS stoN stoS linK lab1 linE linB linO maskS linI linS linQ linP)
theorem DC.nilAggOwn {P : Program} {F : FuncId} {pre : List C} {sz : Nat} {post : List D} {h : List (Option (List C))} {R : D → List (Option (List C)) → Prop} (hD : DC P F (.agg (pre ++ [.msl h.length sz 0 0]) :: post) (h ++ [some []]) R) :
 DC P F (.agg (pre++[.v (.slice none 0 0)]) :: post) h R :=
 DC.nilOwn (fun I w s vs hs hv=>by
  have hle:s.le (upd s h.length (some none)):=fun k x e=>by
   by_cases hk:k=h.length
   ·subst hk;rw [hs] at e;cases e
   ·rw [upd_ne _ _ hk];exact e
  obtain ⟨hsz,hall⟩:=hv
  refine ⟨by simpa using hsz,fun j h1 h2=>?_⟩
  have h3:=hall j h1 (by simpa using h2)
  have key:∀ x,RD I w s x (.agg (pre++[.v (.slice none 0 0)]))→RD I w (upd s h.length (some none)) x (.agg (pre++[.msl h.length sz 0 0])):=fun x hx=>by
   cases hx with
   | agg xs cs hl hr =>
    refine .agg xs _ (by simpa using hl) fun i g1 g2=>?_
    have g3:=hr i g1 (by simpa using g2)
    rcases Nat.lt_or_ge i pre.length with hi | hi
    ·rw [List.getElem_append_left hi] at g3 ⊢
     exact g3.mono (fun _ h=>h) (fun _ _=>rfl) (Shp.refl w) hle
    ·have:i=pre.length:=by simp at g2;omega
     subst this
     rw [List.getElem_append_right (Nat.le_refl _)] at g3 ⊢
     simp only [Nat.sub_self,List.getElem_cons_zero] at g3 ⊢
     have key:∀ y,RC I w s y (.v (.slice none 0 0))→RC I w (upd s h.length (some none)) y (.msl h.length sz 0 0):=fun y hy=>by
      cases hy with
      | v _ _ _=>exact .msl0 _ _ _ _ (upd_same _ _ _)
     exact key _ g3
  cases j with
  | zero=>exact key _ h3
  | succ j =>
   simp only [List.getElem_cons_succ] at h3 ⊢
   exact h3.mono (fun _ h=>h) (fun _ _=>rfl) (Shp.refl w) hle) hD
def StR (ar:List Int) (out:List St1) (R:List Int × List St1) (r:D) (h:List (Option (List C))):Prop :=
 r = .agg [isI R.1,isI ar,.v (.slice none 0 0),.msl 1 11 0 (out++R.2).length]∧h=[none,some (stC (out++R.2))]
def BlkH (p:Pg) (d:Nat):Prop:=∀ (mk:Int) (pc:Nat) (vs:List Int) (out l:List St1),pc≤3→(∀ s ∈ l,stmtOK p d s=true)→p.vars.length≤vs.length→lab3 vs→vs.length+17 * lsize d l≤1000000→out.length+70 * lsize d l≤1000000 →
 DC Tryz.prog 98 [.agg [isI vs,isI p.arrays,.v (.slice none 0 0),.msl 0 11 0 out.length],.c (.isl 11 (St1.cellsL l)),DI .i64 mk,DI .i64 pc] [some (stC out)] (StR p.arrays out (linB (linS p.arrays d mk pc) vs l))
theorem linB_lab3 {f : List Int → St1 → List Int × List St1} (hf : ∀ vs s, lab3 vs → lab3 (f vs s).1) : ∀ (l : List St1) (vs : List Int), lab3 vs → lab3 (linB f vs l).1
 | [],vs,h=>h
 | s :: r,vs,h=>by simp only [linB];exact linB_lab3 hf r _ (hf vs s h)
theorem linS_lab3 {ar : List Int} (h2 : lab3 ar) : ∀ (d : Nat) (mk : Int) (pc : Nat) (vs : List Int) (s : St1), pc ≤ 3 → lab3 vs → lab3 (linS ar d mk pc vs s).1
 | 0,_,_,vs,_,_,h=>h
 | d+1,mk,pc,vs,.mk k t ix v c b e,hp,h=>by
  have hb:=fun mk pc vs l (hp:pc≤3) (h:lab3 vs)=>linB_lab3 (f:=linS ar d mk pc) (fun vs s h=>linS_lab3 h2 d mk pc vs s hp h) l vs h
  have hE:=linE_lab3 hp h2 5 vs v h
  have hl:=labN_le h h2 5 v
  have hpl:=or3 hp hl
  by_cases k4:k=4
  ·subst k4;rw [CtL.linS_4];exact hb mk pc vs b hp h
  by_cases k3:k=3
  ·subst k3
   rw [CtL.linS_3]
   unfold linI
   dsimp only
   split
   ·exact hb _ _ _ e hpl (hb _ _ _ b hpl (lab3_app (lab3_app hE (lab3_lab1 hp hl)) (lab3_lab1 hp hl)))
   ·exact hb _ _ _ e hpl (hb _ _ _ b hpl hE)
  rw [CtL.linS_o k4 k3]
  unfold linO
  split
  ·exact hE
  ·split
   ·exact hE
   ·split
    ·exact lab3_app hE (lab3_lab1 (labN_le hE h2 5 _) hp)
    ·exact hE
theorem RetOb.linI {R : D → List (Option (List C)) → Prop} {V ar : List Int} {out l : List St1} {hp : Hp} {j n : Nat} {cs : List C}
 (hR:R (.tup [.agg [isI V,isI ar,.v (.slice none 0 0),.msl 0 11 0 out.length],.c (.isl 11 (St1.cellsL l))]) [some (stC out)])
 (h0:hp 0=some (some (stC out))) (h:hp j=some (some cs)) (hc:cs=stC l) (hn:n=l.length) (hk:1≤j) :
 RetOb 1 R (.tup [.agg [isI V,isI ar,.v (.slice none 0 0),.msl 0 11 0 out.length],.c (.msl j 11 0 n)]) hp:=by
 subst hc hn
 refine RetOb.ofQ (fun j=>if j=0 then some 0 else none) [j] (.tup [.agg [isI V,isI ar,.v (.slice none 0 0),.msl 0 11 0 out.length],.c (.isl 11 (St1.cellsL l))]) [some (stC out)] ?_ hR (by simp)
 have g1:(St1.cellsL l).flatten=stC l:=by rw [St1.cellsL_eq];rfl
 have g2:∀ x ∈ St1.cellsL l,x.length=11:=fun x hx=>by rw [St1.cellsL_eq] at hx;obtain ⟨e,_,rfl⟩:=List.mem_map.1 hx;exact St1.cells_len e
 have g3:∀ x ∈ St1.cellsL l,∀ c ∈ x,kf c=true:=fun x hx=>by rw [St1.cellsL_eq] at hx;obtain ⟨e,_,rfl⟩:=List.mem_map.1 hx;exact st_kf e
 have hne:¬ 0=j:=by omega
 simp [enumL,hOf,DM,DMs,CM,CMs,HpOK,LowOK,upd,isI,St1.cellsL_length,g1,h,h0,hne,CMs.kf (stC_kf _)]
 exact ⟨g2,g3⟩
theorem innerS {p : Pg} {d : Nat} (ih : BlkH p d) (mk : Int) (pc : Nat) (vs : List Int) (out l : List St1) (hp : pc ≤ 3) (hok : ∀ s ∈ l, stmtOK p d s = true) (hl : p.vars.length ≤ vs.length) (h1 : lab3 vs) (hb1 : vs.length + 17 * lsize d l ≤ 1000000) (hb2 : 70 * lsize d l ≤ 1000000) (ho : out.length ≤ 1000000) :
 DC Tryz.prog 120 [.agg [isI vs, isI p.arrays, .v (.slice none 0 0), .msl 0 11 0 out.length], .c (.isl 11 (St1.cellsL l)), DI .i64 mk, DI .i64 pc] [some (stC out)]
  (fun r h=>r = .tup [.agg [isI (linB (linS p.arrays d mk pc) vs l).1,isI p.arrays,.v (.slice none 0 0),.msl 0 11 0 out.length],.c (.isl 11 (St1.cellsL (linB (linS p.arrays d mk pc) vs l).2))]∧h=[some (stC out)]):=by
 have hmx:=mx_eq
 have hB:=DC.nilAggOwn (pre:=[isI vs,isI p.arrays,.v (.slice none 0 0)]) (h:=[]) (ih mk pc vs [] l hp hok hl h1 hb1 (by simpa using hb2))
 unfold StR at hB
 generalize linB (linS p.arrays d mk pc) vs l=B at *
 obtain ⟨vj,oj⟩:=B
 obtain ⟨pv,ar,pb⟩:=p
 simp only [List.nil_append,List.cons_append] at hB ⊢
 refine dcZ Tryz.func120 ?_
 simp only [go_sem]
 iterate 2 ((try (refine drvZ Tryz.func120 ?_;simp only [go_sem]));((with_reducible and_intros)<;>try exact sd))
 refine XK.callG [] hB ok98 (fun i' x h=>by simp at h) (hbT ()) (fun d h' ⟨_,e⟩=>by subst e;simp) ?_
 rintro _ _ ⟨rfl,rfl⟩ _
 iterate 3 ((try (refine drvZ Tryz.func120 ?_;simp only [go_sem,renCs_stC]));((with_reducible and_intros)<;>try exact sd))
 exact RetOb.linI ⟨rfl,rfl⟩ (by simp [upd,hpL]) (by simp [upd,hpL]) rfl rfl (by omega)
open CtL (e0 cE vE rdE bE selE hitE asg sto maskE readN readS stoN stoS linK lab1 linE linB linO maskS linI linS linQ linP)
theorem linB_sz2 {p:Pg} (d:Nat) (mk:Int) (pc:Nat) (l:List St1):∀ (vs:List Int),(∀ s ∈ l,stmtOK p d s=true)→p.vars.length≤vs.length→(linB (linS p.arrays d mk pc) vs l).1.length≤vs.length+17 * lsize d l∧∀ D,lsize D (linB (linS p.arrays d mk pc) vs l).2≤70 * lsize d l:=by
 induction l with
 | nil=>intro vs _ _;simp [linB,lsize]
 | cons s r ihr =>
  intro vs hok hl
  have h1:=CtL.linS_sz d mk pc s vs (hok s (by simp)) hl
  have hm:=CtL.more_le (CtL.lin_more (p:=p) d mk pc vs [s] (by simpa using hok s (by simp)) hl)
  simp only [linB] at hm
  have h2:=ihr (linS p.arrays d mk pc vs s).1 (fun s hs=>hok s (by simp [hs])) (by omega)
  have e:lsize d (s :: r)=tsize d s+lsize d r:=by simp [lsize]
  refine ⟨by simp only [linB];omega,fun D=>?_⟩
  have:=h1.2 D
  have:=h2.2 D
  simp only [linB,lsize_app]
  omega
theorem len_le_lsize1 (l:List St1):l.length≤lsize 1 l:=CtL.len_lsize l
theorem RetOb.linT {R : D → List (Option (List C)) → Prop} {V ar : List Int} {out' : List St1} {hp : Hp} {kt n : Nat} {cs : List C}
 (hR:R (.agg [isI V,isI ar,.v (.slice none 0 0),.msl 1 11 0 out'.length]) [none,some (stC out')])
 (h:hp kt=some (some cs)) (hc:∀ hT r fz,CMs hT r hp fz (stC out') cs) (hn:n=out'.length) (hk:1≤kt) :
 RetOb 1 R (.agg [isI V,isI ar,.v (.slice none 0 0),.msl kt 11 0 n]) hp:=by
 subst hn
 refine RetOb.ofQ (fun j=>if j=1 then some kt else some j) [] (.agg [isI V,isI ar,.v (.slice none 0 0),.msl 1 11 0 out'.length]) [none,some (stC out')] ?_ hR (by simp)
 simp [enumL,hOf,DM,DMs,CM,CMs,HpOK,LowOK,upd,isI,h]
 exact hc _ _ _
theorem ifS {p : Pg} {d : Nat} (ih : BlkH p d) (hla : p.arrays.length ≤ 1048576) (h2 : lab3 p.arrays) (mk : Int) (pc : Nat) (vs : List Int) (out : List St1) (w t : Int) (ix v : Ex) (c : Int) (b e : List St1) (hw : w = 3) (hp : pc ≤ 3) (hso : stmtOK p (d + 1) (.mk w t ix v c b e) = true) (hl : p.vars.length ≤ vs.length) (h1 : lab3 vs)
 (hb1:vs.length+17 * tsize (d+1) (.mk w t ix v c b e)≤1000000) (hb2:out.length+70 * tsize (d+1) (.mk w t ix v c b e)≤1000000) :
 DC Tryz.prog 119 [.agg [isI vs, isI p.arrays, .v (.slice none 0 0), .msl 0 11 0 out.length], .agg (St1.cells (.mk w t ix v c b e)), DI .i64 mk, DI .i64 pc] [some (stC out)]
  (StR p.arrays out (linS p.arrays (d+1) mk pc vs (.mk w t ix v c b e))):=by
 have hmx:=mx_eq
 obtain ⟨hh,hbo,heo⟩:=stmtOK_succ hso
 have hts:tsize (d+1) (.mk w t ix v c b e)=1+lsize d b+lsize d e:=by simp [tsize,lsize]
 rw [hts] at hb1 hb2
 have hsv:=CtL.shape_mono (p:=p) (q:=⟨vs,p.arrays,[]⟩) hl rfl 5 v ((shapeV hso).1 (by omega))
 have hcnt:cnt 5 v≤15:=by
  have hkk:=head_kind hh
  have:right p v=true:=by
   rcases hkk with h | h | h | h
   ·exact h.2.2.2
   ·exact h.2.2.2.2.2
   ·exact h.2
   ·omega
  exact (right_shape this).2
 have hlab:=labelL vs p.arrays (by omega) (by omega) h1 h2 5 v hsv
 have hle:=labN_le h1 h2 5 v
 have hex:=exprS p.arrays pc hp h2 hla 5 v vs out hsv h1 (by omega) (by omega)
 have hEl:=linE_lab3 hp h2 5 vs v h1
 have hEz:=CtL.linE_sz (ar:=p.arrays) (pc:=pc) 5 vs v
 have hEm:=CtL.more_le (CtL.linE_ok (q:=⟨[],p.arrays,[]⟩) rfl pc 5 vs v hsv).more
 have hSz:∀ mk pc (vs:List Int) (l:List St1),(∀ s ∈ l,stmtOK p d s=true)→p.vars.length≤vs.length→vs.length≤(linB (linS p.arrays d mk pc) vs l).1.length:=fun mk pc vs l hok hl=>CtL.more_le (CtL.lin_more (p:=p) d mk pc vs l hok hl)
 have hls:=CtL.linS_3 (ar:=p.arrays) (d:=d) (mk:=mk) (pc:=pc) (vs:=vs) (t:=t) (ix:=ix) (v:=v) (c:=c) (b:=b) (e:=e)
 rw [hw] at *
 rw [hls]
 clear hls hso hh
 have hor:=or3 hp hle
 have hse:=labelSecretS (labN vs p.arrays 5 v) hle
 generalize labN vs p.arrays 5 v=l at *
 generalize linE p.arrays pc 5 vs v=E at *
 obtain ⟨vi,oi,xe⟩:=E
 simp only at hex hEl hEz hEm ⊢
 unfold linI
 dsimp only
 cases hsec:secL l with
 | false =>
  rw [if_neg (by simp)]
  rw [hsec] at hse
  have hI1:=innerS ih mk (pc ||| l) vi (out++oi) b hor hbo (by omega) hEl (by omega) (by omega) (by rw [List.length_append];omega)
  have hs1:=hSz mk (pc ||| l) vi b hbo (by omega)
  have hl1:=linB_lab3 (fun vs s h=>linS_lab3 h2 d mk (pc ||| l) vs s hor h) b vi hEl
  have hz1:=(linB_sz2 (p:=p) d mk (pc ||| l) b vi hbo (by omega)).1
  generalize linB (linS p.arrays d mk (pc ||| l)) vi b=B1 at *
  obtain ⟨vj,oj⟩:=B1
  simp only at hI1 hs1 hl1 hz1 ⊢
  have hI2:=innerS ih mk (pc ||| l) vj (out++oi) e hor heo (by omega) hl1 (by omega) (by omega) (by rw [List.length_append];omega)
  generalize linB (linS p.arrays d mk (pc ||| l)) vj e=B2 at *
  obtain ⟨vk,ok⟩:=B2
  simp only at hI2 ⊢
  have hcl:=stC_len (out++oi)
  have hlen:(out++oi).length≤1000000:=by rw [List.length_append];omega
  obtain ⟨pv,ar,pb⟩:=p
  obtain ⟨ik,iv,iks⟩:=ix
  obtain ⟨k',v',ks'⟩:=v
  obtain ⟨xk,xv,xks⟩:=xe
  generalize hR:StR ar out (vk,oi++[.mk 3 0 e0 (.mk xk xv xks) 0 oj ok])=R
  refine dcZ Tryz.func119 ?_
  simp only [go_sem]
  iterate 3 ((try (refine drvZ Tryz.func119 ?_;simp only [go_sem]));((with_reducible and_intros)<;>try exact sd);(try first | refine XK.p hlab ok126 ?_ | refine XK.gp hlab ok126 ?_))
  refine XK.callG [0] hex ok121 (hhpG (by simp [HH,upd,hpL,renCs_stC])) (hbT ()) (fun d h' ⟨_,e⟩=>by subst e;simp) ?_
  rintro _ _ ⟨rfl,rfl⟩ _
  iterate 3 ((try (refine drvZ Tryz.func119 ?_;simp only [go_sem,renCs_stC]));((with_reducible and_intros)<;>try exact sd);(try first | refine XK.p hse ok125 ?_ | refine XK.gp hse ok125 ?_))
  refine XK.callG [1025] hI1 ok120 (hhpG (by simp [HH,upd,renCs_stC])) (hbT ()) (fun d h' ⟨_,e⟩=>by subst e;simp) ?_
  rintro _ _ ⟨rfl,rfl⟩ _
  iterate 2 ((try (refine drvZ Tryz.func119 ?_;simp only [go_sem,renCs_stC]));((with_reducible and_intros)<;>try exact sd))
  refine XK.callG [1025] hI2 ok120 (hhpG (by simp [HH,upd,renCs_stC])) (hbT ()) (fun d h' ⟨_,e⟩=>by subst e;simp) ?_
  rintro _ _ ⟨rfl,rfl⟩ _
  iterate 5 ((try (refine drvZ Tryz.func119 ?_;simp only [go_sem,renCs_stC,hcl]));((with_reducible and_intros)<;>try exact sd))
  refine RetOb.linT (R:=R) (out':=out++(oi++[.mk 3 0 e0 (.mk xk xv xks) 0 oj ok])) (by rw [← hR];exact ⟨rfl,rfl⟩) (by simp [upd];rfl) (fun _ _ _=>?_) (by simp [Nat.add_assoc]) (by omega)
  rw [← List.append_assoc,stC_snoc]
  exact CMs.app (CMs.kf (stC_kf _)) (by simp [CMs,CM,St1.cells,St1.cellsL,Ex.cells,Ex.cellsL,e0])
 | true =>
  rw [if_pos rfl]
  rw [hsec] at hse
  have hl2:(vi++lab1 pc l++lab1 pc l).length=vi.length+2:=by simp [lab1]
  have hlv:=lab3_app (lab3_app hEl (lab3_lab1 hp hle)) (lab3_lab1 hp hle)
  have hf1:=freshS vi p.arrays (out++oi) ((pc ||| l:Nat):Int) (by rw [List.length_append];omega) (by omega)
  have hf2:=freshS (vi++lab1 pc l) p.arrays (out++oi++[asg vi.length (maskE mk xe (cE 0))]) ((pc ||| l:Nat):Int) (by simp only [List.length_append,List.length_singleton];omega) (by simp [lab1];omega)
  have hmS:out++oi++[asg vi.length (maskE mk xe (cE 0))]++[asg ((vi.length+1:Nat):Int) (maskE mk (bE 9 (vE vi.length) (cE 0)) (cE 0))]=out++oi++maskS mk vi.length xe:=by simp [maskS]
  have ha1:=asgS (vi++lab1 pc l) p.arrays (out++oi) vi.length (maskE mk xe (cE 0)) (by rw [List.length_append];omega)
  have ha2:=asgS (vi++lab1 pc l++lab1 pc l) p.arrays (out++oi++[asg vi.length (maskE mk xe (cE 0))]) ((vi.length+1:Nat):Int) (maskE mk (bE 9 (vE vi.length) (cE 0)) (cE 0)) (by simp only [List.length_append,List.length_singleton];omega)
  rw [hmS] at ha2
  have c0:=constS 0
  have cv:=varS vi.length
  have hm1:=maskES mk xe (cE 0)
  have hm2:=maskES mk (bE 9 (vE vi.length) (cE 0)) (cE 0)
  have hn:=nodeS 9 [vE vi.length,cE 0]
  have hB1:=ih vi.length (pc ||| l) (vi++lab1 pc l++lab1 pc l) (out++oi++maskS mk vi.length xe) b hor hbo (by omega) hlv (by omega) (by simp only [List.length_append,maskS,List.length_cons,List.length_nil];omega)
  have hs1:=hSz vi.length (pc ||| l) (vi++lab1 pc l++lab1 pc l) b hbo (by omega)
  have hl1:=linB_lab3 (fun vs s h=>linS_lab3 h2 d vi.length (pc ||| l) vs s hor h) b (vi++lab1 pc l++lab1 pc l) hlv
  have hz1:=linB_sz2 (p:=p) d vi.length (pc ||| l) b (vi++lab1 pc l++lab1 pc l) hbo (by omega)
  have hz2:=len_le_lsize1 (linB (linS p.arrays d vi.length (pc ||| l)) (vi++lab1 pc l++lab1 pc l) b).2
  have hz3:=hz1.2 1
  have hz1:=hz1.1
  unfold StR at hB1
  generalize linB (linS p.arrays d vi.length (pc ||| l)) (vi++lab1 pc l++lab1 pc l) b=B1 at *
  obtain ⟨vj,oj⟩:=B1
  simp only at hB1 hs1 hl1 hz1 hz2 hz3 ⊢
  have hB2:=ih ((vi.length+1:Nat):Int) (pc ||| l) vj (out++oi++maskS mk vi.length xe++oj) e hor heo (by omega) hl1 (by omega) (by simp only [List.length_append,maskS,List.length_cons,List.length_nil];omega)
  unfold StR at hB2
  generalize linB (linS p.arrays d ((vi.length+1:Nat):Int) (pc ||| l)) vj e=B2 at *
  obtain ⟨vk,ok⟩:=B2
  simp only at hB2 ⊢
  obtain ⟨pv,ar,pb⟩:=p
  obtain ⟨ik,iv,iks⟩:=ix
  obtain ⟨k',v',ks'⟩:=v
  obtain ⟨xk,xv,xks⟩:=xe
  generalize hR:StR ar out (vk,oi++maskS mk vi.length (.mk xk xv xks)++oj++ok)=R
  generalize hM1:maskE mk (.mk xk xv xks) (cE 0)=M1 at *
  generalize hM2:maskE mk (bE 9 (vE vi.length) (cE 0)) (cE 0)=M2 at *
  obtain ⟨m1k,m1v,m1s⟩:=M1
  obtain ⟨m2k,m2v,m2s⟩:=M2
  rw [exC2] at hn
  have hln:(vi++lab1 pc l).length=vi.length+1:=by simp [lab1]
  rw [hln] at hf2
  simp only [cE,vE,bE,lab1,Ex.cells,Ex.cellsL,List.cons_append,List.nil_append,List.length_cons,List.length_nil] at c0 cv hm1 hm2 hn hf1 hf2 ha1 ha2 hB1
  refine dcZ Tryz.func119 ?_
  simp only [go_sem]
  iterate 3 ((try (refine drvZ Tryz.func119 ?_;simp only [go_sem]));((with_reducible and_intros)<;>try exact sd);(try first | refine XK.p hlab ok126 ?_ | refine XK.gp hlab ok126 ?_))
  refine XK.callG [0] hex ok121 (hhpG (by simp [HH,upd,hpL,renCs_stC])) (hbT ()) (fun d h' ⟨_,e⟩=>by subst e;simp) ?_
  rintro _ _ ⟨rfl,rfl⟩ _
  iterate 3 ((try (refine drvZ Tryz.func119 ?_;simp only [go_sem,renCs_stC]));((with_reducible and_intros)<;>try exact sd);(try first | refine XK.p hse ok125 ?_ | refine XK.gp hse ok125 ?_))
  refine XK.callG [1025] hf1 ok144 (hhpG (by simp [HH,upd,renCs_stC])) (hbT ()) (fun d h' ⟨_,e⟩=>by subst e;simp) ?_
  rintro _ _ ⟨rfl,rfl⟩ _
  iterate 5 ((try (refine drvZ Tryz.func119 ?_;simp only [go_sem,renCs_stC]));((with_reducible and_intros)<;>try exact sd);(try first | refine XK.p c0 ok145 ?_ | refine XK.gp c0 ok145 ?_ | refine XK.p hm1 ok123 ?_ | refine XK.gp hm1 ok123 ?_))
  refine XK.callG [1025] ha1 ok122 (hhpG (by simp [HH,upd,renCs_stC])) (hbT ()) (fun d h' ⟨_,e⟩=>by subst e;simp) ?_ (fun _=>⟨by kernel_rfl,_,_,⟨rfl,rfl⟩,by simp⟩)
  rintro _ _ ⟨rfl,rfl⟩ _
  iterate 2 ((try (refine drvZ Tryz.func119 ?_;simp only [go_sem,renCs_stC]));((with_reducible and_intros)<;>try exact sd))
  refine XK.callG [2753] hf2 ok144 (hhpG (by simp [HH,upd,renCs_stC])) (hbT ()) (fun d h' ⟨_,e⟩=>by subst e;simp) ?_
  rintro _ _ ⟨rfl,rfl⟩ _
  iterate 4 ((try (refine drvZ Tryz.func119 ?_;simp only [go_sem,renCs_stC]));((with_reducible and_intros)<;>try exact sd);(try first | refine XK.p cv ok124 ?_ | refine XK.gp cv ok124 ?_ | refine XK.p c0 ok145 ?_ | refine XK.gp c0 ok145 ?_))
  refine XK.callG [3905] hn ok146 (hhpG (by simp [HH,upd,renCs,renC])) (hbT ()) (fun d h' ⟨_,e⟩=>by subst e;simp) ?_ (fun _=>⟨by kernel_rfl,_,_,⟨rfl,rfl⟩,by simp⟩)
  rintro _ _ ⟨rfl,rfl⟩ _
  iterate 3 ((try (refine drvZ Tryz.func119 ?_;simp only [go_sem,renCs_stC]));((with_reducible and_intros)<;>try exact sd);(try first | refine XK.p c0 ok145 ?_ | refine XK.gp c0 ok145 ?_ | refine XK.p hm2 ok123 ?_ | refine XK.gp hm2 ok123 ?_))
  refine XK.callG [2753] ha2 ok122 (hhpG (by simp [HH,upd,renCs_stC])) (hbT ()) (fun d h' ⟨_,e⟩=>by subst e;simp) ?_ (fun _=>⟨by kernel_rfl,_,_,⟨rfl,rfl⟩,by simp⟩)
  rintro _ _ ⟨rfl,rfl⟩ _
  iterate 2 ((try (refine drvZ Tryz.func119 ?_;simp only [go_sem,renCs_stC]));((with_reducible and_intros)<;>try exact sd))
  refine XK.callG [4161] hB1 ok98 (hhpG (by simp [HH,upd,renCs_stC])) (hbT ()) (fun d h' ⟨_,e⟩=>by subst e;simp) ?_
  rintro _ _ ⟨rfl,rfl⟩ _
  iterate 2 ((try (refine drvZ Tryz.func119 ?_;simp only [go_sem,renCs_stC]));((with_reducible and_intros)<;>try exact sd))
  refine XK.callG [4737] hB2 ok98 (hhpG (by simp [HH,upd,renCs_stC])) (hbT ()) (fun d h' ⟨_,e⟩=>by subst e;simp) ?_
  rintro _ _ ⟨rfl,rfl⟩ _
  iterate 2 ((try (refine drvZ Tryz.func119 ?_;simp only [go_sem,renCs_stC]));((with_reducible and_intros)<;>try exact sd))
  exact RetOb.linS (R:=R) (out':=out++(oi++maskS mk vi.length (.mk xk xv xks)++oj++ok)) (cs:=stC (out++oi++maskS mk vi.length (.mk xk xv xks)++oj++ok)) (by rw [← hR];exact ⟨rfl,rfl⟩) (by simp [upd]) (by simp only [List.append_assoc]) (by simp only [List.append_assoc]) (by omega)
end Go.Proofs.YtoakidkcppinpaaGreat.CtD
