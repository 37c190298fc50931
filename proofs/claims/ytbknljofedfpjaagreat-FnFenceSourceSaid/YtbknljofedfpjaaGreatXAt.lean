/- Contracts of functions of the program, one behind the other, as plain data: what each call returns and which blocks it leaves. -/
import Derived.Test.YtbknljofedfpjaaGreatXFacts
import Derived.Test.YtbknljofedfpjaaGreatXAi
import Derived.Test.YtbknljofedfpjaaGreatXAk
import Derived.Test.YtbknljofedfpjaaGreatXAm
import Derived.Test.YtbknljofedfpjaaGreatXAp
import Derived.Test.YtbknljofedfpjaaGreatXAq
import Derived.Test.YtbknljofedfpjaaGreatXAr
import Derived.Test.YtbknljofedfpjaaGreatXAs
import Derived.Test.YtbknljofedfpjaaGreatXAl
import Derived.Test.YtbknljofedfpjaaGreatXAn
import Derived.Test.YtbknljofedfpjaaGreatXAo
set_option linter.unusedVariables false
set_option linter.unusedSimpArgs false
set_option linter.unusedSectionVars false
set_option maxHeartbeats 16000000
set_option maxRecDepth 100000
namespace Go.Proofs.YtbknljofedfpjaaGreat.CtD
open Go Go.CT CtF CtR
variable [Yn]
open CtL (In Cd kE cL cS seqE seqS lenS lenL lastE compL compP halt)
theorem withFieldsI (op a b c d:Int) (q:List Int):DC Tryz.prog 133 [.agg [I64 op,I64 0,I64 0,I64 0,I64 0],.c (.msl 0 1 0 4)] [some ((a :: b :: c :: d :: q).map I64)] (fun r h=>r = .agg (inX ⟨op,a,b,c,d⟩)∧h=[some ((a :: b :: c :: d :: q).map I64)]):=by
 have hmx:=mx_eq
 refine dcZ Tryz.func133 ?_
 simp only [go_sem]
 iterate 3 ((try (refine drvZ Tryz.func133 ?_;simp only [go_sem,List.map_cons]));((with_reducible and_intros)<;>try exact sd))
 refine RetOb.ofQ some [] (.agg (inX ⟨op,a,b,c,d⟩)) [some ((a :: b :: c :: d :: q).map I64)] ?_ ⟨rfl,rfl⟩ (by simp)
 simp [enumL,hOf,DM,CM,CMs,HpOK,LowOK,upd,inX,hpL,CMs_I]
abbrev EmH (L:List In) (O:List Int) (ow ct:Int):List (Option (List C)):=[some [.msl 1 5 0 L.length,.msl 2 1 0 O.length,I64 ow,I64 ct],some (inC L),some (O.map I64)]
abbrev EmR (L:List In) (O:List Int) (ow ct:Int):List (Option (List C)):=[some [.msl 3 5 0 L.length,.msl 4 1 0 O.length,I64 ow,I64 ct],none,none,some (inC L),some (O.map I64)]
theorem RetOb.emA {R : D → List (Option (List C)) → Prop} {L : List In} {O : List Int} {ow ct : Int} {hp : Hp} {ka kb n1 n2 : Nat} {c1 c2 : List C} (hR : R (.tup []) (EmR L O ow ct)) (h0 : hp 0 = some (some [.msl ka 5 0 n1, .msl kb 1 0 n2, I64 ow, I64 ct])) (ha : hp ka = some (some c1)) (hb : hp kb = some (some c2))
 (e1:c1=inC L) (e2:c2=O.map I64) (e3:n1=L.length) (e4:n2=O.length) (nab:ka ≠ kb) (na:1≤ka) (nb:1≤kb) (h1:hp 1 ≠ none) (h2:hp 2 ≠ none):RetOb 3 R (.tup []) hp:=by
 subst e1 e2 e3 e4
 refine RetOb.ofQ (fun j=>if j=3 then some ka else if j=4 then some kb else some j) [] (.tup []) (EmR L O ow ct) ?_ hR (by simp [EmR])
 have n0:¬ 0=ka:=by omega
 have n0':¬ 0=kb:=by omega
 simp [EmR,enumL,hOf,DM,DMs,CM,CMs,HpOK,LowOK,upd,h0,ha,hb,nab,n0,n0',CMs_I,CMs_in,h1,h2]
abbrev EmF (L:List In) (O:List Int) (ow ct:Int) (fs:List Int):List (Option (List C)):=[some [.msl 1 5 0 L.length,.msl 2 1 0 O.length,I64 ow,I64 ct],some (inC L),some (O.map I64),some (fs.map I64)]
abbrev EmG (L:List In) (O:List Int) (ow ct:Int):List (Option (List C)):=[some [.msl 4 5 0 L.length,.msl 5 1 0 O.length,I64 ow,I64 ct],none,none,none,some (inC L),some (O.map I64)]
theorem RetOb.emB {R : D → List (Option (List C)) → Prop} {L : List In} {O : List Int} {ow ct : Int} {hp : Hp} {ka kb n1 n2 : Nat} {c1 c2 : List C} (hR : R (.tup []) (EmG L O ow ct)) (h0 : hp 0 = some (some [.msl ka 5 0 n1, .msl kb 1 0 n2, I64 ow, I64 ct])) (ha : hp ka = some (some c1)) (hb : hp kb = some (some c2))
 (e1:c1=inC L) (e2:c2=O.map I64) (e3:n1=L.length) (e4:n2=O.length) (nab:ka ≠ kb) (na:1≤ka) (nb:1≤kb) (h1:hp 1 ≠ none) (h2:hp 2 ≠ none) (h3:hp 3 ≠ none):RetOb 4 R (.tup []) hp:=by
 subst e1 e2 e3 e4
 refine RetOb.ofQ (fun j=>if j=4 then some ka else if j=5 then some kb else some j) [] (.tup []) (EmG L O ow ct) ?_ hR (by simp [EmG])
 have n0:¬ 0=ka:=by omega
 have n0':¬ 0=kb:=by omega
 simp [EmG,enumL,hOf,DM,DMs,CM,CMs,HpOK,LowOK,upd,h0,ha,hb,nab,n0,n0',CMs_I,CMs_in,h1,h2,h3]
theorem emitI (fs : List Int) (op a b c d : Int) (q : List Int) (hf : fs ++ [0, 0, 0, 0] = a :: b :: c :: d :: q) (hf4 : fs.length ≤ 4) (L : List In) (O : List Int) (ow ct : Int) (hL : L.length ≤ 100000) (hO : O.length ≤ 100000) :
 DC Tryz.prog 91 [.c (.ptr 0 0),DI .i64 op,.c (.msl 3 1 0 fs.length)] (EmF L O ow ct fs) (fun r h=>r = .tup []∧h=EmG (L++[⟨op,a,b,c,d⟩]) (O++[ow]) ow ct):=by
 have hmx:=mx_eq
 have hcl:=inC_len L
 have hwf:=withFieldsI op a b c d q
 have hfm:fs.map I64++[I64 0,I64 0,I64 0,I64 0]=(a :: b :: c :: d :: q).map I64:=by rw [← hf,List.map_append];rfl
 generalize hR:(fun (r:D) (h:List (Option (List C)))=>r = .tup []∧h=EmG (L++[⟨op,a,b,c,d⟩]) (O++[ow]) ow ct)=R
 refine dcZ Tryz.func91 ?_
 simp only [go_sem,hcl]
 iterate 3 ((try (refine drvZ Tryz.func91 ?_;simp only [go_sem,hcl,List.length_map,hfm]));((with_reducible and_intros)<;>try exact sd))
 refine XK.callG [580] hwf ok133 (hhpG (by simp [HH,upd,hpL,renCs_I,renCs,renC])) (hbT ()) (fun d h' ⟨_,e⟩=>by subst e;simp) ?_ (fun _=>⟨by kernel_rfl,_,_,⟨rfl,rfl⟩,by simp⟩)
 rintro _ _ ⟨rfl,rfl⟩ _
 iterate 6 ((try (refine drvZ Tryz.func91 ?_;simp only [go_sem,hcl,List.length_map,inX,renCs_I]));((with_reducible and_intros)<;>try exact sd))
 exact RetOb.emB (L:=L++[⟨op,a,b,c,d⟩]) (O:=O++[ow]) (by rw [← hR];exact ⟨rfl,rfl⟩) rfl rfl rfl (by simp [inC_app,inC_one,inX]) (by simp) (by simp) (by simp) (by decide) (by decide) (by decide) (by simp [upd,hpL,appUp,upsFrom,rkey]) (by simp [upd,hpL,appUp,upsFrom,rkey]) (by simp [upd,hpL,appUp,upsFrom,rkey])
open CtL (In Cd kE cL cS seqE seqS lenS lenL lastE compL compP halt)
def CeOK (p:Pg) (ow ct:Int) (d:Nat):Prop:=∀ (e:Ex) (reg:Nat) (L:List In) (O:List Int),CtR.shape p d e=true→reg+3 * d≤1000→L.length+cnt d e≤90000→O.length+cnt d e≤90000 →
 DC Tryz.prog 132 [.c (.ptr 0 0),.agg e.cells,DI .i64 reg] (EmH L O ow ct) (fun r h=>r = .tup []∧h=EmR (L++kE d e reg) (O++List.replicate (cnt d e) ow) ow ct)
theorem ceExpr1 (p:Pg) (ow ct:Int) (d:Nat) (ih:CeOK p ow ct d):CeOK p ow ct (d+1):=by
 have hmx:=mx_eq
 intro e reg L O hsh hreg hL hO
 unfold CeOK at ih
 obtain ⟨k,v,ks⟩:=e
 obtain ⟨g1,g2,g3⟩:=shape_succ hsh
 obtain ⟨hl3,hla,hv0,hv1⟩:=fits_len g1
 have hcn:cnt (d+1) (.mk k v ks)=1+(ks.map (cnt d)).sum:=rfl
 generalize hR:(fun (r:D) (h:List (Option (List C)))=>r = .tup []∧h=EmR (L++kE (d+1) (.mk k v ks) reg) (O++List.replicate (cnt (d+1) (.mk k v ks)) ow) ow ct)=R
 by_cases hk:k=1∨k=2
 ·have hks:ks=[]:=by
   rcases CtL.shape_form hsh with ⟨_,h⟩ | ⟨a,h,_⟩ | ⟨a,b,h,_⟩ | ⟨a,b,c,h,_⟩
   ·exact h
   all_goals omega
  subst hks
  have hem:=fun op=>emitI [(reg:Int),v] op reg v 0 0 [0,0] rfl (by simp) L O ow ct (by omega) (by omega)
  rcases hk with rfl | rfl
  ·have hem:=hem 1
   refine dcZ Tryz.func132 ?_
   simp only [go_sem]
   iterate 4 ((try (refine drvZ Tryz.func132 ?_;simp only [go_sem]));((with_reducible and_intros)<;>try exact sd))
   refine XK.callG [0,1,2,579] hem ok91 (hhpG (by simp [HH,upd,hOf,hpL,appUp,upsFrom,rkey,rk0,renCs_in,renCs_I,renCs,renC])) (hbT ()) (fun d h' ⟨_,e⟩=>by subst e;simp) ?_
   rintro _ _ ⟨rfl,rfl⟩ _
   iterate 4 ((try (refine drvZ Tryz.func132 ?_;simp only [go_sem,renCs_in,renCs_I]));((with_reducible and_intros)<;>try exact sd))
   exact RetOb.emA (by rw [← hR];exact ⟨rfl,rfl⟩) rfl rfl rfl (by simp [CtL.kE]) (by simp [cnt]) (by simp [CtL.kE]) (by simp [cnt]) (by decide) (by decide) (by decide) (by simp [upd,hpL,hOf,appUp,upsFrom,rkey]) (by simp [upd,hpL,hOf,appUp,upsFrom,rkey])
  ·have hem:=hem 2
   refine dcZ Tryz.func132 ?_
   simp only [go_sem]
   iterate 4 ((try (refine drvZ Tryz.func132 ?_;simp only [go_sem]));((with_reducible and_intros)<;>try exact sd))
   refine XK.callG [0,1,2,707] hem ok91 (hhpG (by simp [HH,upd,hOf,hpL,appUp,upsFrom,rkey,rk0,renCs_in,renCs_I,renCs,renC])) (hbT ()) (fun d h' ⟨_,e⟩=>by subst e;simp) ?_
   rintro _ _ ⟨rfl,rfl⟩ _
   iterate 4 ((try (refine drvZ Tryz.func132 ?_;simp only [go_sem,renCs_in,renCs_I]));((with_reducible and_intros)<;>try exact sd))
   exact RetOb.emA (by rw [← hR];exact ⟨rfl,rfl⟩) rfl rfl rfl (by simp [CtL.kE]) (by simp [cnt]) (by simp [CtL.kE]) (by simp [cnt]) (by decide) (by decide) (by decide) (by simp [upd,hpL,hOf,appUp,upsFrom,rkey]) (by simp [upd,hpL,hOf,appUp,upsFrom,rkey])
 ·have e1:(k == 1)=false:=by simp;omega
  have e2:(k == 2)=false:=by simp;omega
  have f1:(k=1)=False:=eq_false (by omega)
  have f2:(k=2)=False:=eq_false (by omega)
  have hkE:kE (d+1) (.mk k v ks) reg=seqE (kE d) reg ks++[lastE k v reg]:=by
   rw [kE,if_neg (by omega),if_neg (by omega)]
  have hsum:=fun i=>tsum_le (cnt d) ks i
  have hT:∀ i x,ks[i]? = some x→seqE (kE d) reg (ks.take (i+1))=seqE (kE d) reg (ks.take i)++kE d x (reg+i):=fun i x hx=>by
   obtain ⟨hlt,_⟩:=List.getElem?_eq_some_iff.1 hx
   rw [List.take_add_one,hx]
   have:=CtL.seqE_snoc (kE d) (ks.take i) reg x
   rw [List.length_take,Nat.min_eq_left (by omega)] at this
   exact this
  have hTl:∀ i,(seqE (kE d) reg (ks.take i)).length=tsum (cnt d) ks i:=fun i=>CtL.seqE_len (p:=p) (ks.take i) reg fun e he n=>CtL.kE_len d e (g2 e (List.mem_of_mem_take he)) n
  have hts:(ks.map (cnt d)).sum=tsum (cnt d) ks ks.length:=by simp [tsum]
  refine dcZ Tryz.func132 ?_
  simp only [go_sem,e1,e2,f1,f2]
  iterate 4 ((try (refine drvZ Tryz.func132 ?_;simp only [go_sem,e1,e2,f1,f2]));((with_reducible and_intros)<;>try exact sd))
  refine Go.loopQ (fun i : Nat => [(0, .c (.ptr 0 0)), (2, DI .i64 reg), (4, .c (.ptr 3 0)), (27, .c (.isl 3 (Ex.cellsL ks))), (28, DI .i64 ks.length), (29, DI .i64 i)])
   (fun i=>[(0,some [.msl 5 5 0 (L++seqE (kE d) reg (ks.take i)).length,.msl 6 1 0 (O++List.replicate (tsum (cnt d) ks i) ow).length,I64 ow,I64 ct]),(1,none),(2,none),(3,some (Ex.cells (.mk k v ks))),
    (5,some (inC (L++seqE (kE d) reg (ks.take i)))),(6,some ((O++List.replicate (tsum (cnt d) ks i) ow).map I64))])
   4096 (fun i=>i≤ks.length) (fun i=>ks.length - i) ?_ 0 (fun j=>if j=5 then some 1 else if j=6 then some 2 else some j) [] _ (Nat.zero_le _) ?_
  ·intro i hi again
   rcases Nat.lt_or_ge i ks.length with hlt | hge
   ·obtain ⟨⟨k',v',ks'⟩,hx⟩:∃ x,ks[i]? = some x:=⟨ks[i],by simp [hlt]⟩
    have hsx:=g2 _ (List.mem_of_getElem? hx)
    have hti:=tsum_succ (cnt d) ks i _ hx
    have hs1:=hsum (i+1)
    have hlx:=CtL.kE_len d _ hsx (reg+i)
    have hic:=ih (.mk k' v' ks') (reg+i) (L++seqE (kE d) reg (ks.take i)) (O++List.replicate (tsum (cnt d) ks i) ow) hsx (by omega) (by rw [List.length_append,hTl];omega) (by rw [List.length_append,List.length_replicate];omega)
    have hTi:=hT i _ hx
    have hLl:(L++seqE (kE d) reg (ks.take i)).length≤90000:=by rw [List.length_append,hTl];omega
    have hOl:(O++List.replicate (tsum (cnt d) ks i) ow).length≤90000:=by rw [List.length_append,List.length_replicate];omega
    rw [List.append_assoc,List.append_assoc,rep_app,← hTi,← hti] at hic
    generalize L++seqE (kE d) reg (ks.take i)=L1 at *
    generalize O++List.replicate (tsum (cnt d) ks i) ow=O1 at *
    refine drvL Tryz.func132 ?_
    simp only [go_sem,hx,hlt]
    iterate 3 ((try (refine drvZ Tryz.func132 ?_;simp only [go_sem,hx,hlt]));((with_reducible and_intros)<;>try exact sd))
    refine XK.callG [0,5,6] hic ok132 (hhpG (by simp [HH,upd,hOf,hpL,renCs_in,renCs_I,renCs,renC,rk0])) (hbT ()) (fun d h' ⟨_,e⟩=>by subst e;simp) ?_
    rintro _ _ ⟨rfl,rfl⟩ _
    iterate 4 ((try (refine drvZ Tryz.func132 ?_;simp only [go_sem,renCs_in,renCs_I]));((with_reducible and_intros)<;>try exact sd))
    refine again (i+1) (fun j=>if j=5 then some 4864 else if j=6 then some 4865 else some j) [] _ hlt (by omega) ?_
    simp only [go_sem,TmOK,DM,DMs,CM,CMs,forall_eq,exists_eq_left,Mq,HpOK,LowOK]
    simp [-List.map_append,CMs_in,CMs_I]
   ·have hn2:¬ i<ks.length:=by omega
    obtain rfl:i=ks.length:=by omega
    have hTk:=hTl ks.length
    clear ih hT again
    rw [List.take_length] at hTk
    simp only [List.take_length]
    have hL2:(L++seqE (kE d) reg ks).length≤90000:=by rw [List.length_append];omega
    have hO2:(O++List.replicate (tsum (cnt d) ks ks.length) ow).length≤90000:=by rw [List.length_append,List.length_replicate];omega
    have hrL:L++kE (d+1) (.mk k v ks) reg=(L++seqE (kE d) reg ks)++[lastE k v reg]:=by rw [hkE,List.append_assoc]
    have hrO:O++List.replicate (cnt (d+1) (.mk k v ks)) ow=(O++List.replicate (tsum (cnt d) ks ks.length) ow)++[ow]:=by rw [hcn,hts,Nat.add_comm,← rep_one,List.append_assoc]
    rw [hrL,hrO] at hR
    generalize L++seqE (kE d) reg ks=L2 at *
    generalize O++List.replicate (tsum (cnt d) ks ks.length) ow=O2 at *
    clear hrL hrO
    by_cases k3:k=3
    ·subst k3
     have hem:=emitI [(reg:Int),v,(reg:Int)] 4 reg v reg 0 [0,0,0] rfl (by simp) L2 O2 ow ct (by omega) (by omega)
     refine drvL Tryz.func132 ?_
     simp only [go_sem,hn2]
     iterate 5 ((try (refine drvZ Tryz.func132 ?_;simp only [go_sem,hn2]));((with_reducible and_intros)<;>try exact sd))
     refine XK.callG [0,5,6,4736] hem ok91 (hhpG (by simp [HH,upd,hOf,hpL,appUp,upsFrom,rkey,rk0,renCs_in,renCs_I,renCs,renC])) (hbT ()) (fun d h' ⟨_,e⟩=>by subst e;simp) ?_
     rintro _ _ ⟨rfl,rfl⟩ _
     iterate 4 ((try (refine drvZ Tryz.func132 ?_;simp only [go_sem,renCs_in,renCs_I]));((with_reducible and_intros)<;>try exact sd))
     exact RetOb.emA (by rw [← hR];exact ⟨rfl,rfl⟩) rfl rfl rfl (by simp [lastE,Int.reduceEq]) rfl (by simp [lastE,Int.reduceEq]) rfl (by decide) (by decide) (by decide) (by simp [upd,hpL,hOf,appUp,upsFrom,rkey]) (by simp [upd,hpL,hOf,appUp,upsFrom,rkey])
    by_cases k11:k=11
    ·subst k11
     have hem:=emitI [(reg:Int),(reg:Int),(reg:Int)+1,(reg:Int)+2] 7 reg reg ((reg:Int)+1) ((reg:Int)+2) [0,0,0,0] rfl (by simp) L2 O2 ow ct (by omega) (by omega)
     refine drvL Tryz.func132 ?_
     simp only [go_sem,hn2]
     iterate 5 ((try (refine drvZ Tryz.func132 ?_;simp only [go_sem,hn2]));((with_reducible and_intros)<;>try exact sd))
     refine XK.callG [0,5,6,4992] hem ok91 (hhpG (by simp [HH,upd,hOf,hpL,appUp,upsFrom,rkey,rk0,renCs_in,renCs_I,renCs,renC])) (hbT ()) (fun d h' ⟨_,e⟩=>by subst e;simp) ?_
     rintro _ _ ⟨rfl,rfl⟩ _
     iterate 4 ((try (refine drvZ Tryz.func132 ?_;simp only [go_sem,renCs_in,renCs_I]));((with_reducible and_intros)<;>try exact sd))
     exact RetOb.emA (by rw [← hR];exact ⟨rfl,rfl⟩) rfl rfl rfl (by simp [lastE,Int.reduceEq]) rfl (by simp [lastE,Int.reduceEq]) rfl (by decide) (by decide) (by decide) (by simp [upd,hpL,hOf,appUp,upsFrom,rkey]) (by simp [upd,hpL,hOf,appUp,upsFrom,rkey])
    ·have e3:(k == 3)=false:=by simp;omega
     have e11:(k == 11)=false:=by simp;omega
     have f3:(k=3)=False:=eq_false (by omega)
     have f11:(k=11)=False:=eq_false (by omega)
     have hem:=emitI [(reg:Int),k,(reg:Int),(reg:Int)+1] 6 reg k reg ((reg:Int)+1) [0,0,0,0] rfl (by simp) L2 O2 ow ct (by omega) (by omega)
     refine drvL Tryz.func132 ?_
     simp only [go_sem,hn2]
     iterate 5 ((try (refine drvZ Tryz.func132 ?_;simp only [go_sem,hn2,e3,e11,f3,f11]));((with_reducible and_intros)<;>try exact sd))
     refine XK.callG [0,5,6,4992] hem ok91 (hhpG (by simp [HH,upd,hOf,hpL,appUp,upsFrom,rkey,rk0,renCs_in,renCs_I,renCs,renC])) (hbT ()) (fun d h' ⟨_,e⟩=>by subst e;simp) ?_
     rintro _ _ ⟨rfl,rfl⟩ _
     iterate 4 ((try (refine drvZ Tryz.func132 ?_;simp only [go_sem,renCs_in,renCs_I]));((with_reducible and_intros)<;>try exact sd))
     exact RetOb.emA (by rw [← hR];exact ⟨rfl,rfl⟩) rfl rfl rfl (by simp [lastE,k3,k11]) rfl (by simp [lastE,k3,k11]) rfl (by decide) (by decide) (by decide) (by simp [upd,hpL,hOf,appUp,upsFrom,rkey]) (by simp [upd,hpL,hOf,appUp,upsFrom,rkey])
  ·simp only [go_sem,TmOK,DM,DMs,CM,CMs,forall_eq,exists_eq_left,Mq,HpOK,LowOK]
   simp [CtL.seqE,tsum,CMs_in,CMs_I]
theorem ceExpr (p : Pg) (ow ct : Int) : ∀ d, CeOK p ow ct d
 | 0=>fun e reg L O h=>by simp [CtR.shape] at h
 | d+1=>ceExpr1 p ow ct d (ceExpr p ow ct d)
open CtL (In Cd kE cL cS seqE seqS lenS lenL lastE compL compP halt)
def EbR (L:List In) (O:List Int) (ct:Int) (r:D) (h:List (Option (List C))):Prop:=r = .tup []∧∃ w:Int,h=EmR L O w ct
def EbOK (p:Pg) (d dep:Nat):Prop:=∀ (l:List St1) (L:List In) (O:List Int) (n:Nat) (ow:Int),(∀ s ∈ l,stmtOK p d s=true)→dep+d≤100→n+lsize d l≤90000→L.length+lenL d l≤80000→O.length+lenL d l≤80000 →
 DC Tryz.prog 90 [.c (.ptr 0 0),.c (.isl 11 (St1.cellsL l)),DI .i64 dep] (EmH L O ow n) (EbR (L++cL d dep L.length l) (O++oL d n l) ((n+lsize d l:Nat):Int))
theorem ebOf (p:Pg) (d dep:Nat) (hb:∀ d',d=d' + 1→EbOK p d' (dep+1)):EbOK p d dep:=by
 have hmx:=mx_eq
 intro l L O n ow hok hdep hn hL hO
 unfold EbOK at hb
 have hsum:=fun i=>tsum_le (tsize d) l i
 have hsul:=fun i=>tsum_le (lenS d) l i
 have hlz:lsize d l=(l.map (tsize d)).sum:=rfl
 have hll:lenL d l=(l.map (lenS d)).sum:=rfl
 have hlen:=len_le_sum (tsize d) l fun s hs=>stmtOK_pos (hok s hs)
 have hoki:=fun i s (h:s ∈ l.take i)=>hok s (List.mem_of_mem_take h)
 have hTl:∀ i,(cL d dep L.length (l.take i)).length=tsum (lenS d) l i:=fun i=>CtL.cL_len (hoki i)
 have hOl:∀ i,(oL d n (l.take i)).length=tsum (lenS d) l i:=fun i=>oL_len (hoki i)
 have hT:∀ i x,l[i]? = some x→L++cL d dep L.length (l.take (i+1))=(L++cL d dep L.length (l.take i))++cS d dep (L++cL d dep L.length (l.take i)).length x:=fun i x hx=>by
  rw [List.take_add_one,hx,List.length_append,hTl,List.append_assoc]
  exact congrArg (L ++ ·) (CtL.seqS_snoc (cS d dep) (lenS d) (l.take i) L.length x)
 have hU:∀ i x,l[i]? = some x→O++oL d n (l.take (i+1))=(O++oL d n (l.take i))++oS d (n+tsum (tsize d) l i) x:=fun i x hx=>by
  rw [List.take_add_one,hx,List.append_assoc]
  exact congrArg (O ++ ·) (seqO_snoc (oS d) (tsize d) (l.take i) n x)
 generalize hR:EbR (L++cL d dep L.length l) (O++oL d n l) ((n+lsize d l:Nat):Int)=R
 refine dcZ Tryz.func90 ?_
 simp only [go_sem]
 iterate 2 ((try (refine drvZ Tryz.func90 ?_;simp only [go_sem]));((with_reducible and_intros)<;>try exact sd))
 refine Go.loopQ (fun x : Nat × Int => [(0, .c (.ptr 0 0)), (2, DI .i64 dep), (13, .c (.isl 11 (St1.cellsL l))), (14, DI .i64 l.length), (15, DI .i64 x.1)])
  (fun x=>[(0,some [.msl 5 5 0 (L++cL d dep L.length (l.take x.1)).length,.msl 6 1 0 (O++oL d n (l.take x.1)).length,I64 x.2,I64 ((n+tsum (tsize d) l x.1:Nat):Int)]),(1,none),(2,none),
   (5,some (inC (L++cL d dep L.length (l.take x.1)))),(6,some ((O++oL d n (l.take x.1)).map I64))])
  8192 (fun x=>x.1≤l.length) (fun x=>l.length - x.1) ?_ (0,ow) (fun j=>if j=5 then some 1 else if j=6 then some 2 else some j) [] _ (Nat.zero_le _) ?_
 ·rintro ⟨i,wi⟩ hi again
  simp only at hi
  rcases Nat.lt_or_ge i l.length with hlt | hge
  ·obtain ⟨⟨k,t,ix,v,c,bd,el⟩,hx⟩:∃ x,l[i]? = some x:=⟨l[i],by simp [hlt]⟩
   have hso:=hok _ (List.mem_of_getElem? hx)
   obtain ⟨d,rfl⟩:∃ d',d=d' + 1:=by
    cases d with
    | zero=>simp [stmtOK] at hso
    | succ d=>exact ⟨d,rfl⟩
   have hb:=hb d rfl
   obtain ⟨hh,hbo,heo⟩:=stmtOK_succ hso
   have hti:=tsum_succ (tsize (d+1)) l i _ hx
   have htj:=tsum_succ (lenS (d+1)) l i _ hx
   have hs1:=hsum (i+1)
   have hs2:=hsul (i+1)
   have hLl:(L++cL (d+1) dep L.length (l.take i)).length=L.length+tsum (lenS (d+1)) l i:=by rw [List.length_append,hTl]
   have hOl2:(O++oL (d+1) n (l.take i)).length=O.length+tsum (lenS (d+1)) l i:=by rw [List.length_append,hOl]
   have hTi:=hT i _ hx
   have hUi:=hU i _ hx
   have hni:((n+tsum (tsize (d+1)) l (i+1):Nat):Int)=((n+tsum (tsize (d+1)) l i+tsize (d+1) (.mk k t ix v c bd el):Nat):Int):=by rw [hti,Nat.add_assoc]
   have hts:tsize (d+1) (.mk k t ix v c bd el)=1+lsize d bd+lsize d el:=rfl
   rw [hts] at hni hti
   have hLb:(L++cL (d+1) dep L.length (l.take i)).length+lenS (d+1) (.mk k t ix v c bd el)≤80000:=by omega
   have hOb:(O++oL (d+1) n (l.take i)).length+lenS (d+1) (.mk k t ix v c bd el)≤80000:=by omega
   have hnb:n+tsum (tsize (d+1)) l i+(1+lsize d bd+lsize d el)≤90000:=by omega
   have hl9:l.length≤90000:=by omega
   simp only
   generalize hLz:L++cL (d+1) dep L.length (l.take (i+1))=Lz at *
   generalize hOz:O++oL (d+1) n (l.take (i+1))=Oz at *
   generalize L++cL (d+1) dep L.length (l.take i)=LL at *
   generalize O++oL (d+1) n (l.take i)=OO at *
   generalize hNZ:n+tsum (tsize (d+1)) l (i+1)=nz at *
   generalize n+tsum (tsize (d+1)) l i=nn at *
   clear hT hU hTl hOl hLl hOl2 hsum hsul hoki hs1 hs2 hti htj hlz hll
   rcases head_kind hh with ⟨hk | hk,ht0,ht1,hr⟩ | ⟨hk,ht0,ht1,hri,hai,hr⟩ | ⟨hk,hr⟩ | ⟨hk,hc1,hc3⟩
   ·subst hk
    have hs:=(right_shape hr).1
    have hlv:=CtL.kE_len 5 v hs 0
    have hlen:lenS (d+1) (.mk 1 t ix v c bd el)=cnt 5 v+1:=by simp [lenS]
    rw [hlen] at hLb hOb
    obtain ⟨q1,q2⟩:=(CtL.head_parts hh).2.2.1 (by decide) (by decide)
    subst q1 q2
    have hcx:=ceExpr p nn ((nn+1:Nat):Int) 5 v 0 LL OO hs (by omega) (by omega) (by omega)
    have hL1:(LL++kE 5 v 0).length≤90000:=by rw [List.length_append];omega
    have hO1:(OO++List.replicate (cnt 5 v) (nn:Int)).length≤90000:=by rw [List.length_append,List.length_replicate];omega
    rw [show LL++cS (d+1) dep LL.length (.mk 1 t ix v c [] [])=(LL++kE 5 v 0)++[⟨3,t,0,0,0⟩] by simp [cS]] at hTi
    rw [show OO++oS (d+1) nn (.mk 1 t ix v c [] [])=(OO++List.replicate (cnt 5 v) (nn:Int))++[(nn:Int)] by simp [oS]] at hUi
    rw [show nn+(1+lsize d []+lsize d [])=nn+1 by simp [lsize]] at hni
    generalize LL++kE 5 v 0=L1 at *
    generalize OO++List.replicate (cnt 5 v) (nn:Int)=O1 at *
    have hc2:=emitI [t,0] 3 t 0 0 0 [0,0] rfl (by simp) L1 O1 nn ((nn+1:Nat):Int) (by omega) (by omega)
    obtain ⟨vk,vv,vks⟩:=v
    obtain ⟨ik,iv,iks⟩:=ix
    simp only [Ex.cells,Int.natCast_zero] at hcx
    refine drvL Tryz.func90 ?_
    simp only [go_sem,hx,hlt,renCs_in,renCs_I]
    iterate 8 ((try (refine drvZ Tryz.func90 ?_;simp only [go_sem,hx,hlt,renCs_in,renCs_I]));((with_reducible and_intros)<;>try exact sd))
    refine XK.callG [0,5,6] (hcx) ok132 (hhpG (by simp [HH,upd,hOf,hpL,appUp,upsFrom,rkey,rk0,renCs_in,renCs_I,renCs,renC])) (hbT ()) (fun d h' ⟨_,e⟩=>by subst e;simp) ?_
    rintro _ _ ⟨rfl,rfl⟩ _
    iterate 8 ((try (refine drvZ Tryz.func90 ?_;simp only [go_sem,hx,hlt,renCs_in,renCs_I]));((with_reducible and_intros)<;>try exact sd))
    refine XK.callG [0,10048,10049,10560] (hc2) ok91 (hhpG (by simp [HH,upd,hOf,hpL,appUp,upsFrom,rkey,rk0,renCs_in,renCs_I,renCs,renC])) (hbT ()) (fun d h' ⟨_,e⟩=>by subst e;simp) ?_
    rintro _ _ ⟨rfl,rfl⟩ _
    iterate 8 ((try (refine drvZ Tryz.func90 ?_;simp only [go_sem,hx,hlt,renCs_in,renCs_I]));((with_reducible and_intros)<;>try exact sd))
    refine again (i+1,nn) (fun j=>if j=5 then some 10624 else if j=6 then some 10625 else some j) [] _ hlt (by simp only;omega) ?_
    simp only [hLz,hOz,hNZ,hTi,hUi,hni]
    simp only [go_sem,TmOK,DM,DMs,CM,CMs,forall_eq,exists_eq_left,Mq,HpOK,LowOK]
    simp [-List.map_append,CMs_in,CMs_I]
   ·subst hk
    have hs:=(right_shape hr).1
    have hlv:=CtL.kE_len 5 v hs 0
    have hlen:lenS (d+1) (.mk 5 t ix v c bd el)=cnt 5 v+2:=by simp [lenS]
    rw [hlen] at hLb hOb
    obtain ⟨q1,q2⟩:=(CtL.head_parts hh).2.2.1 (by decide) (by decide)
    subst q1 q2
    have hcx:=ceExpr p nn ((nn+1:Nat):Int) 5 v 0 LL OO hs (by omega) (by omega) (by omega)
    have hL1:(LL++kE 5 v 0).length≤90000:=by rw [List.length_append];omega
    have hO1:(OO++List.replicate (cnt 5 v) (nn:Int)).length≤90000:=by rw [List.length_append,List.length_replicate];omega
    rw [show LL++cS (d+1) dep LL.length (.mk 5 t ix v c [] [])=((LL++kE 5 v 0)++[(⟨11,0,0,0,0⟩:In)])++[⟨3,t,0,0,0⟩] by simp [cS]] at hTi
    rw [show OO++oS (d+1) nn (.mk 5 t ix v c [] [])=((OO++List.replicate (cnt 5 v) (nn:Int))++[(nn:Int)])++[(nn:Int)] by simp [oS]] at hUi
    rw [show nn+(1+lsize d []+lsize d [])=nn+1 by simp [lsize]] at hni
    generalize LL++kE 5 v 0=L1 at *
    generalize OO++List.replicate (cnt 5 v) (nn:Int)=O1 at *
    have hc2:=emitI [0] 11 0 0 0 0 [0] rfl (by simp) L1 O1 nn ((nn+1:Nat):Int) (by omega) (by omega)
    have hL2:(L1++[(⟨11,0,0,0,0⟩:In)]).length≤90001:=by rw [List.length_append];simp;omega
    have hO2:(O1++[(nn:Int)]).length≤90001:=by rw [List.length_append];simp;omega
    generalize L1++[(⟨11,0,0,0,0⟩:In)]=L2 at *
    generalize O1++[(nn:Int)]=O2 at *
    have hc3:=emitI [t,0] 3 t 0 0 0 [0,0] rfl (by simp) L2 O2 nn ((nn+1:Nat):Int) (by omega) (by omega)
    obtain ⟨vk,vv,vks⟩:=v
    obtain ⟨ik,iv,iks⟩:=ix
    simp only [Ex.cells,Int.natCast_zero] at hcx
    refine drvL Tryz.func90 ?_
    simp only [go_sem,hx,hlt,renCs_in,renCs_I]
    iterate 8 ((try (refine drvZ Tryz.func90 ?_;simp only [go_sem,hx,hlt,renCs_in,renCs_I]));((with_reducible and_intros)<;>try exact sd))
    refine XK.callG [0,5,6] (hcx) ok132 (hhpG (by simp [HH,upd,hOf,hpL,appUp,upsFrom,rkey,rk0,renCs_in,renCs_I,renCs,renC])) (hbT ()) (fun d h' ⟨_,e⟩=>by subst e;simp) ?_
    rintro _ _ ⟨rfl,rfl⟩ _
    iterate 8 ((try (refine drvZ Tryz.func90 ?_;simp only [go_sem,hx,hlt,renCs_in,renCs_I]));((with_reducible and_intros)<;>try exact sd))
    refine XK.callG [0,10048,10049,10560] (hc2) ok91 (hhpG (by simp [HH,upd,hOf,hpL,appUp,upsFrom,rkey,rk0,renCs_in,renCs_I,renCs,renC])) (hbT ()) (fun d h' ⟨_,e⟩=>by subst e;simp) ?_
    rintro _ _ ⟨rfl,rfl⟩ _
    iterate 8 ((try (refine drvZ Tryz.func90 ?_;simp only [go_sem,hx,hlt,renCs_in,renCs_I]));((with_reducible and_intros)<;>try exact sd))
    refine XK.callG [0,10624,10625,10880] (hc3) ok91 (hhpG (by simp [HH,upd,hOf,hpL,appUp,upsFrom,rkey,rk0,renCs_in,renCs_I,renCs,renC])) (hbT ()) (fun d h' ⟨_,e⟩=>by subst e;simp) ?_
    rintro _ _ ⟨rfl,rfl⟩ _
    iterate 8 ((try (refine drvZ Tryz.func90 ?_;simp only [go_sem,hx,hlt,renCs_in,renCs_I]));((with_reducible and_intros)<;>try exact sd))
    refine again (i+1,nn) (fun j=>if j=5 then some 10944 else if j=6 then some 10945 else some j) [] _ hlt (by simp only;omega) ?_
    simp only [hLz,hOz,hNZ,hTi,hUi,hni]
    simp only [go_sem,TmOK,DM,DMs,CM,CMs,forall_eq,exists_eq_left,Mq,HpOK,LowOK]
    simp [-List.map_append,CMs_in,CMs_I]
   ·subst hk
    have hs:=(right_shape hr).1
    have hlv:=CtL.kE_len 5 v hs 0
    have hsi:=(right_shape hri).1
    have hli:=CtL.kE_len 5 ix hsi 1
    have hlen:lenS (d+1) (.mk 2 t ix v c bd el)=cnt 5 v+cnt 5 ix+1:=by simp [lenS]
    rw [hlen] at hLb hOb
    obtain ⟨q1,q2⟩:=(CtL.head_parts hh).2.2.1 (by decide) (by decide)
    subst q1 q2
    have hcx:=ceExpr p nn ((nn+1:Nat):Int) 5 v 0 LL OO hs (by omega) (by omega) (by omega)
    have hL1:(LL++kE 5 v 0).length=LL.length+cnt 5 v:=by rw [List.length_append,hlv]
    have hO1:(OO++List.replicate (cnt 5 v) (nn:Int)).length=OO.length+cnt 5 v:=by rw [List.length_append,List.length_replicate]
    rw [show LL++cS (d+1) dep LL.length (.mk 2 t ix v c [] [])=((LL++kE 5 v 0)++kE 5 ix 1)++[(⟨5,t,1,0,0⟩:In)] by simp [cS]] at hTi
    rw [show OO++oS (d+1) nn (.mk 2 t ix v c [] [])=((OO++List.replicate (cnt 5 v) (nn:Int))++List.replicate (cnt 5 ix) (nn:Int))++[(nn:Int)] by simp [-List.replicate_append_replicate,oS]] at hUi
    rw [show nn+(1+lsize d []+lsize d [])=nn+1 by simp [lsize]] at hni
    generalize LL++kE 5 v 0=L1 at *
    generalize OO++List.replicate (cnt 5 v) (nn:Int)=O1 at *
    have hc2:=ceExpr p nn ((nn+1:Nat):Int) 5 ix 1 L1 O1 hsi (by omega) (by omega) (by omega)
    have hL2:(L1++kE 5 ix 1).length≤90000:=by rw [List.length_append];omega
    have hO2:(O1++List.replicate (cnt 5 ix) (nn:Int)).length≤90000:=by rw [List.length_append,List.length_replicate];omega
    generalize L1++kE 5 ix 1=L2 at *
    generalize O1++List.replicate (cnt 5 ix) (nn:Int)=O2 at *
    have hc3:=emitI [t,1,0] 5 t 1 0 0 [0,0,0] rfl (by simp) L2 O2 nn ((nn+1:Nat):Int) (by omega) (by omega)
    obtain ⟨vk,vv,vks⟩:=v
    obtain ⟨ik,iv,iks⟩:=ix
    simp only [Ex.cells,Int.natCast_zero,Int.natCast_one] at hcx hc2
    refine drvL Tryz.func90 ?_
    simp only [go_sem,hx,hlt,renCs_in,renCs_I]
    iterate 8 ((try (refine drvZ Tryz.func90 ?_;simp only [go_sem,hx,hlt,renCs_in,renCs_I]));((with_reducible and_intros)<;>try exact sd))
    refine XK.callG [0,5,6] (hcx) ok132 (hhpG (by simp [HH,upd,hOf,hpL,appUp,upsFrom,rkey,rk0,renCs_in,renCs_I,renCs,renC])) (hbT ()) (fun d h' ⟨_,e⟩=>by subst e;simp) ?_
    rintro _ _ ⟨rfl,rfl⟩ _
    iterate 8 ((try (refine drvZ Tryz.func90 ?_;simp only [go_sem,hx,hlt,renCs_in,renCs_I]));((with_reducible and_intros)<;>try exact sd))
    refine XK.callG [0,10048,10049] (hc2) ok132 (hhpG (by simp [HH,upd,hOf,hpL,appUp,upsFrom,rkey,rk0,renCs_in,renCs_I,renCs,renC])) (hbT ()) (fun d h' ⟨_,e⟩=>by subst e;simp) ?_
    rintro _ _ ⟨rfl,rfl⟩ _
    iterate 8 ((try (refine drvZ Tryz.func90 ?_;simp only [go_sem,hx,hlt,renCs_in,renCs_I]));((with_reducible and_intros)<;>try exact sd))
    refine XK.callG [0,10816,10817,11072] (hc3) ok91 (hhpG (by simp [HH,upd,hOf,hpL,appUp,upsFrom,rkey,rk0,renCs_in,renCs_I,renCs,renC])) (hbT ()) (fun d h' ⟨_,e⟩=>by subst e;simp) ?_
    rintro _ _ ⟨rfl,rfl⟩ _
    iterate 8 ((try (refine drvZ Tryz.func90 ?_;simp only [go_sem,hx,hlt,renCs_in,renCs_I]));((with_reducible and_intros)<;>try exact sd))
    refine again (i+1,nn) (fun j=>if j=5 then some 11136 else if j=6 then some 11137 else some j) [] _ hlt (by simp only;omega) ?_
    simp only [hLz,hOz,hNZ,hTi,hUi,hni]
    simp only [go_sem,TmOK,DM,DMs,CM,CMs,forall_eq,exists_eq_left,Mq,HpOK,LowOK]
    simp [-List.map_append,CMs_in,CMs_I]
   ·subst hk
    have hs:=(right_shape hr).1
    have hlv:=CtL.kE_len 5 v hs 0
    have hlen:lenS (d+1) (.mk 3 t ix v c bd el)=cnt 5 v+lenL d bd+lenL d el+2:=by simp [lenS,lenL]
    rw [hlen] at hLb hOb
    have hcx:=ceExpr p nn ((nn+1:Nat):Int) 5 v 0 LL OO hs (by omega) (by omega) (by omega)
    have hL1:(LL++kE 5 v 0).length=LL.length+cnt 5 v:=by rw [List.length_append,hlv]
    have hO1:(OO++List.replicate (cnt 5 v) (nn:Int)).length=OO.length+cnt 5 v:=by rw [List.length_append,List.length_replicate]
    rw [show LL++cS (d+1) dep LL.length (.mk 3 t ix v c bd el)=(LL++kE 5 v 0)++⟨9,0,(((LL++kE 5 v 0).length+1+lenL d bd+1:Nat):Int),0,0⟩ :: (cL d (dep+1) ((LL++kE 5 v 0).length+1) bd++⟨8,(((LL++kE 5 v 0).length+1+lenL d bd+1+lenL d el:Nat):Int),0,0,0⟩ :: cL d (dep+1) ((LL++kE 5 v 0).length+1+lenL d bd+1) el) by
        rw [hL1]
        simp only [cS,cL,lenL,List.append_assoc]
        simp
        refine ⟨by omega,by omega,?_⟩
        rw [show LL.length+cnt 5 v+(List.map (lenS d) bd).sum+2=LL.length+cnt 5 v+1+(List.map (lenS d) bd).sum+1 by omega]] at hTi
    rw [show OO++oS (d+1) nn (.mk 3 t ix v c bd el)=((((OO++List.replicate (cnt 5 v) (nn:Int))++[(nn:Int)])++oL d (nn+1) bd)++[(nn:Int)])++oL d (nn+1+lsize d bd) el by simp [oS,oL]] at hUi
    rw [show nn+(1+lsize d bd+lsize d el)=nn+1+lsize d bd+lsize d el by omega] at hni
    generalize LL++kE 5 v 0=L1 at *
    generalize OO++List.replicate (cnt 5 v) (nn:Int)=O1 at *
    have hc2:=emitI [0,0] 9 0 0 0 0 [0,0] rfl (by simp) L1 O1 nn ((nn+1:Nat):Int) (by omega) (by omega)
    obtain ⟨N4,hN4⟩:∃ N:Nat,N=L1.length+1+lenL d bd+1:=⟨_,rfl⟩
    obtain ⟨N5,hN5⟩:∃ N:Nat,N=N4+lenL d el:=⟨_,rfl⟩
    rw [← hN4,← hN5] at hTi
    have hL2:(L1++[(⟨9,0,0,0,0⟩:In)]).length=L1.length+1:=by rw [List.length_append];simp
    have hO2:(O1++[(nn:Int)]).length=O1.length+1:=by rw [List.length_append];simp
    have hc3:=hb bd (L1++[(⟨9,0,0,0,0⟩:In)]) (O1++[(nn:Int)]) (nn+1) nn hbo (by omega) (by omega) (by omega) (by omega)
    rw [hL2] at hc3
    have hbl:=CtL.cL_len (dep:=dep+1) (b:=L1.length+1) hbo
    have hob:=oL_len (n:=nn+1) hbo
    generalize cL d (dep+1) (L1.length+1) bd=B at *
    have hL3:(L1++(⟨9,0,0,0,0⟩:In) :: B).length=L1.length+1+lenL d bd:=by rw [List.length_append,List.length_cons,hbl];omega
    have hO3:((O1++[(nn:Int)])++oL d (nn+1) bd).length=O1.length+1+lenL d bd:=by rw [List.length_append,hO2,hob]
    have hL3e:(L1++[(⟨9,0,0,0,0⟩:In)])++B=L1++(⟨9,0,0,0,0⟩:In) :: B:=by simp
    rw [hL3e] at hc3
    generalize L1++[(⟨9,0,0,0,0⟩:In)]=L2 at *
    generalize O1++[(nn:Int)]=O2 at *
    generalize O2++oL d (nn+1) bd=O3 at *
    have hc4:=emitI [0] 8 0 0 0 0 [0] rfl (by simp) (L1++(⟨9,0,0,0,0⟩:In) :: B) O3 nn ((nn+1+lsize d bd:Nat):Int) (by omega) (by omega)
    have hL4e:(L1++(⟨9,0,0,0,0⟩:In) :: B)++[(⟨8,0,0,0,0⟩:In)]=L1++(⟨9,0,0,0,0⟩:In) :: (B++[(⟨8,0,0,0,0⟩:In)]):=by simp
    have hL4:(L1++(⟨9,0,0,0,0⟩:In) :: (B++[(⟨8,0,0,0,0⟩:In)])).length=N4:=by rw [← hL4e,List.length_append,hL3,hN4];rfl
    rw [hL4e] at hc4
    have hset:=inC_setB L1 (B++[(⟨8,0,0,0,0⟩:In)]) ⟨9,0,0,0,0⟩ (N4:Int)
    simp only at hset
    have hL4b:(L1++(⟨9,0,(N4:Int),0,0⟩:In) :: (B++[(⟨8,0,0,0,0⟩:In)])).length=N4:=by rw [← hL4];simp
    have hO4:(O3++[(nn:Int)]).length=O1.length+1+lenL d bd+1:=by rw [List.length_append,hO3];rfl
    generalize O3++[(nn:Int)]=O4 at *
    generalize hx9:(⟨9,0,(N4:Int),0,0⟩:In)=x9 at *
    have hc5:=hb el (L1++x9 :: (B++[(⟨8,0,0,0,0⟩:In)])) O4 (nn+1+lsize d bd) nn heo (by omega) (by omega) (by omega) (by omega)
    rw [hL4b] at hc5
    have hel:=CtL.cL_len (dep:=dep+1) (b:=N4) heo
    generalize cL d (dep+1) N4 el=E at *
    have hL5e:(L1++x9 :: (B++[(⟨8,0,0,0,0⟩:In)]))++E=(L1++x9 :: B)++(⟨8,0,0,0,0⟩:In) :: E:=by simp
    have hL3b:(L1++x9 :: B).length=(L1++(⟨9,0,0,0,0⟩:In) :: B).length:=by simp
    have hL5:((L1++x9 :: B)++(⟨8,0,0,0,0⟩:In) :: E).length=N5:=by rw [← hL5e,List.length_append,hL4b,hel,hN5]
    rw [hL5e] at hc5
    have hset2:=inC_setA (L1++x9 :: B) E ⟨8,0,0,0,0⟩ (N5:Int)
    rw [hL3b] at hset2
    simp only at hset2
    have hfin:L1++x9 :: (B++(⟨8,(N5:Int),0,0,0⟩:In) :: E)=(L1++x9 :: B)++(⟨8,(N5:Int),0,0,0⟩:In) :: E:=by simp
    have hfl:((L1++x9 :: B)++(⟨8,(N5:Int),0,0,0⟩:In) :: E).length=N5:=by rw [← hL5];simp
    rw [hfin] at hTi
    generalize (L1++x9 :: B)++(⟨8,(N5:Int),0,0,0⟩:In) :: E=L6 at *
    have hO5:(O4++oL d (nn+1+lsize d bd) el).length=O4.length+lenL d el:=by rw [List.length_append,oL_len heo]
    generalize O4++oL d (nn+1+lsize d bd) el=O5 at *
    generalize hG3:L1++(⟨9,0,0,0,0⟩:In) :: B=L3 at *
    generalize hG4:L1++(⟨9,0,0,0,0⟩:In) :: (B++[(⟨8,0,0,0,0⟩:In)])=L4 at *
    generalize hG4b:L1++x9 :: (B++[(⟨8,0,0,0,0⟩:In)])=L4b at *
    generalize hG5:(L1++x9 :: B)++(⟨8,0,0,0,0⟩:In) :: E=L5 at *
    have hcl4:=inC_len L4
    have hcl5:=inC_len L5
    simp only [EmH,EbR,EmR,hL4b,hL5] at hc5
    clear hG3 hG4 hG4b hG5 hL3e hL4e hL5e hfin hx9 hbl hel
    obtain ⟨vk,vv,vks⟩:=v
    obtain ⟨ik,iv,iks⟩:=ix
    simp only [Ex.cells,Int.natCast_zero] at hcx
    rw [show ((dep+1:Nat):Int)=(dep:Int)+1 by omega] at hc3 hc5
    refine drvL Tryz.func90 ?_
    simp only [go_sem,hx,hlt,renCs_in,renCs_I]
    iterate 8 ((try (refine drvZ Tryz.func90 ?_;simp only [go_sem,hx,hlt,renCs_in,renCs_I]));((with_reducible and_intros)<;>try exact sd))
    refine XK.callG [0,5,6] (hcx) ok132 (hhpG (by simp [HH,upd,hOf,hpL,appUp,upsFrom,rkey,rk0,renCs_in,renCs_I,renCs,renC])) (hbT ()) (fun d h' ⟨_,e⟩=>by subst e;simp) ?_
    rintro _ _ ⟨rfl,rfl⟩ _
    iterate 8 ((try (refine drvZ Tryz.func90 ?_;simp only [go_sem,hx,hlt,renCs_in,renCs_I]));((with_reducible and_intros)<;>try exact sd))
    refine XK.callG [0,10048,10049,11200] (hc2) ok91 (hhpG (by simp [HH,upd,hOf,hpL,appUp,upsFrom,rkey,rk0,renCs_in,renCs_I,renCs,renC])) (hbT ()) (fun d h' ⟨_,e⟩=>by subst e;simp) ?_
    rintro _ _ ⟨rfl,rfl⟩ _
    iterate 8 ((try (refine drvZ Tryz.func90 ?_;simp only [go_sem,hx,hlt,renCs_in,renCs_I]));((with_reducible and_intros)<;>try exact sd))
    refine XK.callG [0,11264,11265] (hc3) ok90 (hhpG (by simp [HH,upd,hOf,hpL,appUp,upsFrom,rkey,rk0,renCs_in,renCs_I,renCs,renC])) (hbT ()) (fun d h' ⟨_,_,e⟩=>by subst e;simp) ?_
    rintro _ _ ⟨rfl,w1,rfl⟩ _
    iterate 8 ((try (refine drvZ Tryz.func90 ?_;simp only [go_sem,hx,hlt,renCs_in,renCs_I]));((with_reducible and_intros)<;>try exact sd))
    refine XK.callG [0,11648,11649,12480] (hc4) ok91 (hhpG (by simp [HH,upd,hOf,hpL,appUp,upsFrom,rkey,rk0,renCs_in,renCs_I,renCs,renC])) (hbT ()) (fun d h' ⟨_,e⟩=>by subst e;simp) ?_
    rintro _ _ ⟨rfl,rfl⟩ _
    iterate 8 ((try (refine drvZ Tryz.func90 ?_;simp only [go_sem,hx,hlt,renCs_in,renCs_I,hcl4,hL4]));((with_reducible and_intros)<;>try exact sd))
    refine XK.callG [0,12544,12545] (hc5) ok90 (hhpG (by simp [HH,upd,hOf,hpL,appUp,upsFrom,rkey,rk0,renCs_in,renCs_I,renCs,renC,hset])) (hbT ()) (fun d h' ⟨_,_,e⟩=>by subst e;simp) ?_
    rintro _ _ ⟨rfl,w2,rfl⟩ _
    iterate 8 ((try (refine drvZ Tryz.func90 ?_;simp only [go_sem,hx,hlt,renCs_in,renCs_I,hcl5,hL5]));((with_reducible and_intros)<;>try exact sd))
    refine again (i+1,w2) (fun j=>if j=5 then some 13760 else if j=6 then some 13761 else some j) [] _ hlt (by simp only;omega) ?_
    simp only [hLz,hOz,hNZ,hTi,hUi,hni]
    simp only [go_sem,TmOK,DM,DMs,CM,CMs,forall_eq,exists_eq_left,Mq,HpOK,LowOK]
    simp [-List.map_append,CMs_in,CMs_I,hset2,hfl]
   ·subst hk
    have hlen:lenS (d+1) (.mk 4 t ix v c bd el)=lenL d bd+2:=by simp [lenS,lenL]
    rw [hlen] at hLb hOb
    obtain ⟨q1,q2,q3⟩:=(CtL.head_parts hh).1 rfl
    subst q1
    have hc2:=emitI [9+(dep:Int),c] 1 (9+dep) c 0 0 [0,0] rfl (by simp) LL OO nn ((nn+1:Nat):Int) (by omega) (by omega)
    have hL2:(LL++[(⟨1,9+dep,c,0,0⟩:In)]).length=LL.length+1:=by rw [List.length_append];simp
    have hO2:(OO++[(nn:Int)]).length=OO.length+1:=by rw [List.length_append];simp
    have hc3:=hb bd (LL++[(⟨1,9+dep,c,0,0⟩:In)]) (OO++[(nn:Int)]) (nn+1) nn hbo (by omega) (by omega) (by omega) (by omega)
    have hbl:=CtL.cL_len (dep:=dep+1) (b:=LL.length+1) hbo
    have hob:=oL_len (n:=nn+1) hbo
    rw [hL2] at hc3
    rw [show LL++cS (d+1) dep LL.length (.mk 4 t ix v c bd [])=((LL++[(⟨1,9+dep,c,0,0⟩:In)])++cL d (dep+1) (LL.length+1) bd)++[⟨10,9+dep,((LL.length+1:Nat):Int),0,0⟩] by simp [cS,cL]] at hTi
    rw [show OO++oS (d+1) nn (.mk 4 t ix v c bd [])=((OO++[(nn:Int)])++oL d (nn+1) bd)++[(nn:Int)] by simp [oS,oL]] at hUi
    rw [show nn+(1+lsize d bd+lsize d [])=nn+1+lsize d bd by simp [lsize,Nat.add_assoc]] at hni
    have hL3:((LL++[(⟨1,9+dep,c,0,0⟩:In)])++cL d (dep+1) (LL.length+1) bd).length≤90000:=by rw [List.length_append];omega
    have hO3:((OO++[(nn:Int)])++oL d (nn+1) bd).length≤90000:=by rw [List.length_append];omega
    generalize (LL++[(⟨1,9+dep,c,0,0⟩:In)])++cL d (dep+1) (LL.length+1) bd=L3 at *
    generalize (OO++[(nn:Int)])++oL d (nn+1) bd=O3 at *
    generalize LL++[(⟨1,9+dep,c,0,0⟩:In)]=L2 at *
    generalize OO++[(nn:Int)]=O2 at *
    have hc4:=emitI [9+(dep:Int),((LL.length+1:Nat):Int)] 10 (9+dep) ((LL.length+1:Nat):Int) 0 0 [0,0] rfl (by simp) L3 O3 nn ((nn+1+lsize d bd:Nat):Int) (by omega) (by omega)
    obtain ⟨vk,vv,vks⟩:=v
    obtain ⟨ik,iv,iks⟩:=ix
    rw [show ((dep+1:Nat):Int)=(dep:Int)+1 by omega] at hc3
    refine drvL Tryz.func90 ?_
    simp only [go_sem,hx,hlt,renCs_in,renCs_I]
    iterate 9 ((try (refine drvZ Tryz.func90 ?_;simp only [go_sem,hx,hlt,renCs_in,renCs_I]));((with_reducible and_intros)<;>try exact sd))
    refine XK.callG [0,5,6,11072] (hc2) ok91 (hhpG (by simp [HH,upd,hOf,hpL,appUp,upsFrom,rkey,rk0,renCs_in,renCs_I,renCs,renC])) (hbT ()) (fun d h' ⟨_,e⟩=>by subst e;simp) ?_
    rintro _ _ ⟨rfl,rfl⟩ _
    iterate 8 ((try (refine drvZ Tryz.func90 ?_;simp only [go_sem,hx,hlt,renCs_in,renCs_I]));((with_reducible and_intros)<;>try exact sd))
    refine XK.callG [0,11136,11137] (hc3) ok90 (hhpG (by simp [HH,upd,hOf,hpL,appUp,upsFrom,rkey,rk0,renCs_in,renCs_I,renCs,renC])) (hbT ()) (fun d h' ⟨_,_,e⟩=>by subst e;simp) ?_
    rintro _ _ ⟨rfl,w1,rfl⟩ _
    iterate 8 ((try (refine drvZ Tryz.func90 ?_;simp only [go_sem,hx,hlt,renCs_in,renCs_I,hL2]));((with_reducible and_intros)<;>try exact sd))
    refine XK.callG [0,11904,11905,12480] (hc4) ok91 (hhpG (by simp [HH,upd,hOf,hpL,appUp,upsFrom,rkey,rk0,renCs_in,renCs_I,renCs,renC])) (hbT ()) (fun d h' ⟨_,e⟩=>by subst e;simp) ?_
    rintro _ _ ⟨rfl,rfl⟩ _
    iterate 8 ((try (refine drvZ Tryz.func90 ?_;simp only [go_sem,hx,hlt,renCs_in,renCs_I]));((with_reducible and_intros)<;>try exact sd))
    refine again (i+1,nn) (fun j=>if j=5 then some 12544 else if j=6 then some 12545 else some j) [] _ hlt (by simp only;omega) ?_
    simp only [hLz,hOz,hNZ,hTi,hUi,hni]
    simp only [go_sem,TmOK,DM,DMs,CM,CMs,forall_eq,exists_eq_left,Mq,HpOK,LowOK]
    simp [-List.map_append,CMs_in,CMs_I]
  ·have hn2:¬ i<l.length:=by omega
   obtain rfl:i=l.length:=by omega
   have hzz:tsum (tsize d) l l.length=lsize d l:=by simp [tsum,lsize]
   clear hT hU again hb
   simp only [List.take_length,hzz]
   generalize L++cL d dep L.length l=L1 at *
   generalize O++oL d n l=O1 at *
   refine drvL Tryz.func90 ?_
   simp only [go_sem,hn2]
   iterate 3 ((try (refine drvZ Tryz.func90 ?_;simp only [go_sem,hn2]));((with_reducible and_intros)<;>try exact sd))
   exact RetOb.emA (ow:=wi) (by rw [← hR];exact ⟨rfl,_,rfl⟩) rfl rfl rfl rfl rfl rfl rfl (by decide) (by decide) (by decide) (by simp [upd,hpL,hOf]) (by simp [upd,hpL,hOf])
 ·simp only [go_sem,TmOK,DM,DMs,CM,CMs,forall_eq,exists_eq_left,Mq,HpOK,LowOK]
  simp [cL,oL,seqS,seqO,tsum,CMs_in,CMs_I]
theorem ebAll (p : Pg) : ∀ (d dep : Nat), EbOK p d dep
 | 0,dep=>ebOf p 0 dep fun _ h=>by omega
 | d+1,dep=>ebOf p (d+1) dep fun d' h=>by
  obtain rfl:d=d':=by omega
  exact ebAll p d (dep+1)
open CtL (In Cd kE cL cS seqE seqS lenS lenL lastE compL compP halt)
def cpR (p:Pg) (r:D) (h:List (Option (List C))):Prop :=
 r = .tup [.c (.ptr 0 0),DB (decide ((lenL 5 p.body:Int)+1≤400))]∧h=EmH (compL p) (ownL p) (-1) (lsize 5 p.body:Nat)
theorem compiledI (p:Pg) (hv:p.vars.length≤2000000) (ha:p.arrays.length≤2000000) (hok:progOK p=true):DC Tryz.prog 32 [.agg p.cells] [] (cpR p):=by
 have hmx:=mx_eq
 have hpv:=programValidI p (by omega) (by omega)
 rw [hok] at hpv
 have hbo:=body_of hok
 have hll:=lenL_le hok
 have hlen:=CtL.compL_len hok
 have hol:=oL_len (n:=0) hbo.1
 have hcl:=CtL.cL_len (dep:=0) (b:=0) hbo.1
 have hcb:=ebAll p 5 0 p.body [] [] 0 0 hbo.1 (by omega) (by omega) (by simp;omega) (by simp;omega)
 unfold cpR
 rw [show compL p=cL 5 0 0 p.body++[halt] from rfl,show ownL p=oL 5 0 p.body++[-1] from rfl]
 rw [show compL p=cL 5 0 0 p.body++[halt] from rfl] at hlen
 simp only [List.nil_append,List.length_nil,Nat.zero_add,Int.natCast_zero] at hcb
 have had:=DC.nilLast (pre:=[.c (.ptr 0 0),DI .i64 13]) (sz:=1) (h:=EmH (cL 5 0 0 p.body) (oL 5 0 p.body) (-1) (lsize 5 p.body:Nat)) (emitI [] 13 0 0 0 0 [] rfl (by simp) (cL 5 0 0 p.body) (oL 5 0 p.body) (-1) (lsize 5 p.body:Nat) (by omega) (by omega))
 rw [show [(⟨13,0,0,0,0⟩:In)]=[halt] from rfl] at had
 simp only [List.cons_append,List.nil_append] at had
 generalize cL 5 0 0 p.body=B at *
 generalize oL 5 0 p.body=W at *
 generalize lenL 5 p.body=N at *
 generalize lsize 5 p.body=M at *
 have hBl:(B++[halt]).length=N+1:=hlen
 have hWl:(W++[(-1:Int)]).length≤100000:=by rw [List.length_append];simp;omega
 generalize B++[halt]=B1 at *
 generalize W++[(-1:Int)]=W1 at *
 generalize hRR:(fun (r:D) (h:List (Option (List C)))=>r = .tup [.c (.ptr 0 0),DB (decide ((N:Int)+1≤400))]∧h=EmH B1 W1 (-1) (M:Int))=R
 obtain ⟨vs,ar,bd⟩:=p
 refine dcZ Tryz.func32 ?_
 simp only [go_sem]
 iterate 5 ((try (refine drvZ Tryz.func32 ?_;simp only [go_sem]));((with_reducible and_intros)<;>try exact sd);(try first | refine XK.p hpv ok89 ?_ | refine XK.gp hpv ok89 ?_))
 refine XK.subQ (r := fun j => if j = 5 then none else if j = 6 then none else some j) (fz := []) (tl := [(2, .c (.v (.pointer none))), (3, DB false), (4, .c (.ptr 448 0)), (10, .c (.ptr 448 0)), (12, .c (.isl 11 (St1.cellsL bd)))])
  (hl:=[(448,some [.msl 5 5 0 0,.msl 6 1 0 0,I64 0,I64 0]),(5,some []),(6,some [])]) ?_ ?_
 ·simp only [go_sem,TmOK,DM,DMs,CM,CMs,forall_eq,exists_eq_left,Mq,HpOK,LowOK]
  simp
 refine XK.callG [448,5,6] hcb ok90 (hhpG (by simp [HH,upd,hOf,hpL,appUp,upsFrom,rkey,rk0,inC,renCs,renC])) (hbT ()) (fun d h' ⟨_,_,e⟩=>by subst e;simp) ?_
 rintro _ _ ⟨rfl,w,rfl⟩ _
 iterate 4 ((try (refine drvZ Tryz.func32 ?_;simp only [go_sem,renCs_in,renCs_I]));((with_reducible and_intros)<;>try exact sd))
 refine XK.callG [448,768,769] had ok91 (hhpG (by simp [HH,upd,hOf,hpL,appUp,upsFrom,rkey,rk0,renCs_in,renCs_I,renCs,renC])) (hbT ()) (fun d h' ⟨_,e⟩=>by subst e;simp) ?_
 rintro _ _ ⟨rfl,rfl⟩ _
 iterate 5 ((try (refine drvZ Tryz.func32 ?_;simp only [go_sem,renCs_in,renCs_I,hBl]));((with_reducible and_intros)<;>try exact sd))
 refine RetOb.ofQ (fun j=>if j=0 then some 448 else if j=1 then some 1153 else if j=2 then some 1154 else some j) [] (.tup [.c (.ptr 0 0),DB (decide ((N:Int)+1≤400))]) (EmH B1 W1 (-1) (M:Int)) ?_ (by rw [← hRR];exact ⟨rfl,rfl⟩) (by simp)
 simp [enumL,hOf,DM,DMs,CM,CMs,HpOK,LowOK,upd,appUp,upsFrom,rkey,wkey,hBl,CMs_I,CMs_in,renCs_in,renCs_I]
theorem compProgI (p:Pg) (hv:p.vars.length≤2000000) (ha:p.arrays.length≤2000000) (hok:progOK p=true):DC Tryz.prog 7 [.agg p.cells] [] (fun r h=>r = .tup [.agg (cdC (compP p).1),DB (compP p).2]∧h=[]):=by
 have hmx:=mx_eq
 have hpl0:=prog_len hok
 have hc:=compiledI p hv ha hok
 have hcv:=cloneI p.vars (by omega)
 have hca:=cloneI p.arrays (by omega)
 unfold cpR at hc
 generalize hR:(fun (r:D) (h:List (Option (List C)))=>r = .tup [.agg (cdC (compP p).1),DB (compP p).2]∧h=[])=R
 by_cases hl:lenL 5 p.body+1≤400
 ·rw [show compP p=(⟨p.vars,p.arrays,compL p⟩,true) from if_pos ⟨hok,hl⟩] at hR
  have hd:decide ((lenL 5 p.body:Int)+1≤400)=true:=by simp;omega
  rw [hd] at hc
  generalize compL p=B at *
  generalize ownL p=W at *
  generalize lsize 5 p.body=M at *
  obtain ⟨vs,ar,bd⟩:=p
  simp only [ints] at hcv hca
  simp only at hv ha
  have hgv:=flat_I vs
  have hga:=flat_I ar
  have e1:=in_len5 B
  have e2:=in_kf5 B
  refine dcZ Tryz.func7 ?_
  simp only [go_sem]
  iterate 2 ((try (refine drvZ Tryz.func7 ?_;simp only [go_sem]));((with_reducible and_intros)<;>try exact sd))
  refine XK.callG [] hc ok32 (fun i' x h=>by simp at h) (hbT ()) (fun d h' ⟨_,e⟩=>by subst e;simp) ?_
  rintro _ _ ⟨rfl,rfl⟩ _
  iterate 5 ((try (refine drvZ Tryz.func7 ?_;simp only [go_sem,renCs_in,renCs_I]));((with_reducible and_intros)<;>try exact sd))
  refine XK.callG [] hcv ok33 (fun i' x h=>by simp at h) (hbT ()) (fun d h' ⟨_,e⟩=>by subst e;simp) ?_ (fun _=>⟨by kernel_rfl,_,_,⟨rfl,rfl⟩,by simp⟩)
  rintro _ _ ⟨rfl,rfl⟩ _
  iterate 2 ((try (refine drvZ Tryz.func7 ?_;simp only [go_sem,renCs_I]));((with_reducible and_intros)<;>try exact sd))
  refine XK.callG [] hca ok33 (fun i' x h=>by simp at h) (hbT ()) (fun d h' ⟨_,e⟩=>by subst e;simp) ?_ (fun _=>⟨by kernel_rfl,_,_,⟨rfl,rfl⟩,by simp⟩)
  rintro _ _ ⟨rfl,rfl⟩ _
  iterate 5 ((try (refine drvZ Tryz.func7 ?_;simp only [go_sem,renCs_I]));((with_reducible and_intros)<;>try exact sd))
  refine RetOb.ofQ (fun j=>none) [896,1088,257] (.tup [.agg [.isl 1 (vs.map fun n=>[I64 n]),.isl 1 (ar.map fun n=>[I64 n]),.isl 5 (B.map inX)],DB true]) [] ?_ (by rw [← hR];exact ⟨rfl,rfl⟩) (by simp)
  simp [-List.mem_map,enumL,hOf,DM,DMs,CM,CMs,HpOK,LowOK,upd,hgv,hga,appUp,upsFrom,rkey,wkey,renCs_in,renCs_I,in_flat]
  exact ⟨⟨I_len1 _,I_kf1 _⟩,⟨I_len1 _,I_kf1 _⟩,e1,e2⟩
 ·rw [show compP p=(⟨[],[],[]⟩,false) from if_neg fun h=>hl h.2] at hR
  have hd:decide ((lenL 5 p.body:Int)+1≤400)=false:=by simp;omega
  rw [hd] at hc
  generalize compL p=B at *
  generalize ownL p=W at *
  generalize lsize 5 p.body=M at *
  obtain ⟨vs,ar,bd⟩:=p
  refine dcZ Tryz.func7 ?_
  simp only [go_sem]
  iterate 2 ((try (refine drvZ Tryz.func7 ?_;simp only [go_sem]));((with_reducible and_intros)<;>try exact sd))
  refine XK.callG [] hc ok32 (fun i' x h=>by simp at h) (hbT ()) (fun d h' ⟨_,e⟩=>by subst e;simp) ?_
  rintro _ _ ⟨rfl,rfl⟩ _
  iterate 5 ((try (refine drvZ Tryz.func7 ?_;simp only [go_sem]));((with_reducible and_intros)<;>try exact sd))
  exact RetOb.cd0 (by rw [← hR];exact ⟨rfl,rfl⟩)
end Go.Proofs.YtbknljofedfpjaaGreat.CtD
