/- Contracts of functions of the program, one behind the other, as plain data: what each call returns and which blocks it leaves. -/
import Derived.Test.YtoakidkcppinpaaGreatDFacts
import Derived.Test.YtoakidkcppinpaaGreatDAi
import Derived.Test.YtoakidkcppinpaaGreatDAl
import Derived.Test.YtoakidkcppinpaaGreatDAn
import Derived.Test.YtoakidkcppinpaaGreatDAp
import Derived.Test.YtoakidkcppinpaaGreatDAq
import Derived.Test.YtoakidkcppinpaaGreatDAt
import Derived.Test.YtoakidkcppinpaaGreatDAu
import Derived.Test.YtoakidkcppinpaaGreatDAw
import Derived.Test.YtoakidkcppinpaaGreatDAm
import Derived.Test.YtoakidkcppinpaaGreatDAs
set_option linter.unusedVariables false
set_option linter.unusedSimpArgs false
set_option linter.unusedSectionVars false
set_option maxHeartbeats 16000000
set_option maxRecDepth 100000
namespace Go.Proofs.YtoakidkcppinpaaGreat.CtD
open Go Go.CT CtF CtR
variable [Yn]
open CtL (In Cd kE cL cS seqE lenS lenL lastE)
theorem rep_app (n m:Nat) (x:Int):List.replicate n x++List.replicate m x=List.replicate (n+m) x:=by
 rw [List.replicate_append_replicate]
theorem rep_one (n:Nat) (x:Int):List.replicate n x++[x]=List.replicate (n+1) x:=by
 rw [show [x]=List.replicate 1 x from rfl,rep_app]
def CsOK (p:Pg) (a st:Int) (d:Nat):Prop:=∀ (e:Ex) (reg:Nat) (L:List In) (O:List Int),CtR.shape p d e=true→reg+3 * d≤1000→L.length+cnt d e≤90000→O.length+cnt d e≤90000 →
 DC Tryz.prog 139 [CsD 0 1 L O a,DI .i64 st,.agg e.cells,DI .i64 reg] (CsH L O) (fun r h=>r=CsD 2 3 (L++kE d e reg) (O++List.replicate (cnt d e) st) a∧h=CsR (L++kE d e reg) (O++List.replicate (cnt d e) st))
theorem csExpr1 (p:Pg) (a st:Int) (d:Nat) (ih:CsOK p a st d):CsOK p a st (d+1):=by
 have hmx:=mx_eq
 intro e reg L O hsh hreg hL hO
 unfold CsOK at ih
 obtain ⟨k,v,ks⟩:=e
 obtain ⟨g1,g2,g3⟩:=shape_succ hsh
 obtain ⟨hl3,hla,hv0,hv1⟩:=fits_len g1
 have hcn:cnt (d+1) (.mk k v ks)=1+(ks.map (cnt d)).sum:=rfl
 generalize hR:(fun (r:D) (h:List (Option (List C)))=>r=CsD 2 3 (L++kE (d+1) (.mk k v ks) reg) (O++List.replicate (cnt (d+1) (.mk k v ks)) st) a∧h=CsR (L++kE (d+1) (.mk k v ks) reg) (O++List.replicate (cnt (d+1) (.mk k v ks)) st))=R
 by_cases hk:k=1∨k=2
 ·have hks:ks=[]:=by
   rcases CtL.shape_form hsh with ⟨_,h⟩ | ⟨a,h,_⟩ | ⟨a,b,h,_⟩ | ⟨a,b,c,h,_⟩
   ·exact h
   all_goals omega
  subst hks
  have hcs:=fun op=>csAdd L O a st op reg v 0 0 (by omega) (by omega)
  rcases hk with rfl | rfl
  ·have hcs:=hcs 1
   refine dcZ Tryz.func139 ?_
   simp only [go_sem]
   iterate 4 ((try (refine drvZ Tryz.func139 ?_;simp only [go_sem]));((with_reducible and_intros)<;>try exact sd))
   refine XK.callG [0,1] hcs ok93 (hhpG (by simp [HH,upd,hpL,renCs_in,renCs_I])) (hbT ()) (fun d h' ⟨_,e⟩=>by subst e;simp) ?_
   rintro _ _ ⟨rfl,rfl⟩ _
   iterate 3 ((try (refine drvZ Tryz.func139 ?_;simp only [go_sem,renCs_in,renCs_I]));((with_reducible and_intros)<;>try exact sd))
   exact RetOb.csA (by rw [← hR];exact ⟨rfl,rfl⟩) rfl rfl (by simp [CtL.kE]) (by simp [cnt]) (by simp [CtL.kE]) (by simp [cnt]) (by decide) (by simp [upd,hpL,appUp,upsFrom,rkey]) (by simp [upd,hpL,appUp,upsFrom,rkey])
  ·have hcs:=hcs 2
   refine dcZ Tryz.func139 ?_
   simp only [go_sem]
   iterate 4 ((try (refine drvZ Tryz.func139 ?_;simp only [go_sem]));((with_reducible and_intros)<;>try exact sd))
   refine XK.callG [0,1] hcs ok93 (hhpG (by simp [HH,upd,hpL,renCs_in,renCs_I])) (hbT ()) (fun d h' ⟨_,e⟩=>by subst e;simp) ?_
   rintro _ _ ⟨rfl,rfl⟩ _
   iterate 3 ((try (refine drvZ Tryz.func139 ?_;simp only [go_sem,renCs_in,renCs_I]));((with_reducible and_intros)<;>try exact sd))
   exact RetOb.csA (by rw [← hR];exact ⟨rfl,rfl⟩) rfl rfl (by simp [CtL.kE]) (by simp [cnt]) (by simp [CtL.kE]) (by simp [cnt]) (by decide) (by simp [upd,hpL,appUp,upsFrom,rkey]) (by simp [upd,hpL,appUp,upsFrom,rkey])
 ·have e1:(k == 1)=false:=by simp;omega
  have e2:(k == 2)=false:=by simp;omega
  have f1:(k=1)=False:=eq_false (by omega)
  have f2:(k=2)=False:=eq_false (by omega)
  have hkE:kE (d+1) (.mk k v ks) reg=seqE (kE d) reg ks++[lastE k v reg]:=by
   rw [kE,if_neg (by omega),if_neg (by omega)]
  have hsum:=fun i=>tsum_le (cnt d) ks i
  have hT:∀ i x,ks[i]? = some x→seqE (kE d) reg (ks.take (i+1))=seqE (kE d) reg (ks.take i)++kE d x (reg+i):=fun i x hx=>by
   obtain ⟨hlt,_⟩:=List.getElem?_eq_some_iff.1 hx
   rw [List.take_add_one,hx]
   have:=CtL.seqE_snoc (kE d) (ks.take i) reg x
   rw [List.length_take,Nat.min_eq_left (by omega)] at this
   exact this
  have hTl:∀ i,(seqE (kE d) reg (ks.take i)).length=tsum (cnt d) ks i:=fun i=>CtL.seqE_len (p:=p) (ks.take i) reg fun e he n=>CtL.kE_len d e (g2 e (List.mem_of_mem_take he)) n
  have hts:(ks.map (cnt d)).sum=tsum (cnt d) ks ks.length:=by simp [tsum]
  refine dcZ Tryz.func139 ?_
  simp only [go_sem,e1,e2,f1,f2]
  iterate 4 ((try (refine drvZ Tryz.func139 ?_;simp only [go_sem,e1,e2,f1,f2]));((with_reducible and_intros)<;>try exact sd))
  refine Go.loopQ (fun i : Nat => [(1, DI .i64 st), (3, DI .i64 reg), (4, .c (.ptr 2 0)), (6, .c (.ptr 66 0)), (8, .c (.ptr 130 0)), (9, DI .i64 i)])
   (fun i=>[(0,none),(1,none),(2,some [.msl 5 5 0 (L++seqE (kE d) reg (ks.take i)).length,.msl 6 1 0 (O++List.replicate (tsum (cnt d) ks i) st).length,I64 a]),(66,some (Ex.cells (.mk k v ks))),(130,some [.v (.slice none 0 0),.v (.slice none 0 0),I64 0]),
    (5,some (inC (L++seqE (kE d) reg (ks.take i)))),(6,some ((O++List.replicate (tsum (cnt d) ks i) st).map I64))])
   4096 (fun i=>i≤ks.length) (fun i=>ks.length - i) ?_ 0 (fun j=>if j=5 then some 0 else if j=6 then some 1 else some j) [] _ (Nat.zero_le _) ?_
  ·intro i hi again
   rcases Nat.lt_or_ge i ks.length with hlt | hge
   ·obtain ⟨⟨k',v',ks'⟩,hx⟩:∃ x,ks[i]? = some x:=⟨ks[i],by simp [hlt]⟩
    have hsx:=g2 _ (List.mem_of_getElem? hx)
    have hti:=tsum_succ (cnt d) ks i _ hx
    have hs1:=hsum (i+1)
    have hlx:=CtL.kE_len d _ hsx (reg+i)
    have hic:=ih (.mk k' v' ks') (reg+i) (L++seqE (kE d) reg (ks.take i)) (O++List.replicate (tsum (cnt d) ks i) st) hsx (by omega) (by rw [List.length_append,hTl];omega) (by rw [List.length_append,List.length_replicate];omega)
    have hTi:=hT i _ hx
    have hLl:(L++seqE (kE d) reg (ks.take i)).length≤90000:=by rw [List.length_append,hTl];omega
    have hOl:(O++List.replicate (tsum (cnt d) ks i) st).length≤90000:=by rw [List.length_append,List.length_replicate];omega
    rw [List.append_assoc,List.append_assoc,rep_app,← hTi,← hti] at hic
    generalize L++seqE (kE d) reg (ks.take i)=L1 at *
    generalize O++List.replicate (tsum (cnt d) ks i) st=O1 at *
    refine drvL Tryz.func139 ?_
    simp only [go_sem,hx,hlt]
    iterate 3 ((try (refine drvZ Tryz.func139 ?_;simp only [go_sem,hx,hlt]));((with_reducible and_intros)<;>try exact sd))
    refine XK.callG [5,6] hic ok139 (hhpG (by simp [HH,upd,hOf,hpL,renCs_in,renCs_I])) (hbT ()) (fun d h' ⟨_,e⟩=>by subst e;simp) ?_ (fun _=>⟨by kernel_rfl,_,_,⟨rfl,rfl⟩,by simp⟩)
    rintro _ _ ⟨rfl,rfl⟩ _
    iterate 4 ((try (refine drvZ Tryz.func139 ?_;simp only [go_sem,renCs_in,renCs_I]));((with_reducible and_intros)<;>try exact sd))
    refine again (i+1) (fun j=>if j=5 then some 5056 else if j=6 then some 5057 else some j) [] _ hlt (by omega) ?_
    simp only [go_sem,TmOK,DM,DMs,CM,CMs,forall_eq,exists_eq_left,Mq,HpOK,LowOK]
    simp [-List.map_append,CMs_in,CMs_I]
   ·have hn2:¬ i<ks.length:=by omega
    obtain rfl:i=ks.length:=by omega
    have hTk:=hTl ks.length
    clear ih hT again
    rw [List.take_length] at hTk
    simp only [List.take_length]
    have hL2:(L++seqE (kE d) reg ks).length≤90000:=by rw [List.length_append];omega
    have hO2:(O++List.replicate (tsum (cnt d) ks ks.length) st).length≤90000:=by rw [List.length_append,List.length_replicate];omega
    have hrL:L++kE (d+1) (.mk k v ks) reg=(L++seqE (kE d) reg ks)++[lastE k v reg]:=by rw [hkE,List.append_assoc]
    have hrO:O++List.replicate (cnt (d+1) (.mk k v ks)) st=(O++List.replicate (tsum (cnt d) ks ks.length) st)++[st]:=by rw [hcn,hts,Nat.add_comm,← rep_one,List.append_assoc]
    rw [hrL,hrO] at hR
    generalize L++seqE (kE d) reg ks=L2 at *
    generalize O++List.replicate (tsum (cnt d) ks ks.length) st=O2 at *
    clear hrL hrO
    by_cases k3:k=3
    ·subst k3
     have hcs:=csAdd L2 O2 a st 4 reg v reg 0 (by omega) (by omega)
     refine drvL Tryz.func139 ?_
     simp only [go_sem,hn2]
     iterate 5 ((try (refine drvZ Tryz.func139 ?_;simp only [go_sem,hn2]));((with_reducible and_intros)<;>try exact sd))
     refine XK.callG [5,6] hcs ok93 (hhpG (by simp [HH,upd,hOf,hpL,renCs_in,renCs_I])) (hbT ()) (fun d h' ⟨_,e⟩=>by subst e;simp) ?_
     rintro _ _ ⟨rfl,rfl⟩ _
     iterate 3 ((try (refine drvZ Tryz.func139 ?_;simp only [go_sem,renCs_in,renCs_I]));((with_reducible and_intros)<;>try exact sd))
     exact RetOb.csA (by rw [← hR];exact ⟨rfl,rfl⟩) rfl rfl (by simp [lastE,Int.reduceEq]) rfl (by simp [lastE,Int.reduceEq]) rfl (by decide) (by simp [upd,hpL,hOf,appUp,upsFrom,rkey]) (by simp [upd,hpL,hOf,appUp,upsFrom,rkey])
    by_cases k11:k=11
    ·subst k11
     have hcs:=csAdd L2 O2 a st 7 reg reg ((reg:Int)+1) ((reg:Int)+2) (by omega) (by omega)
     refine drvL Tryz.func139 ?_
     simp only [go_sem,hn2]
     iterate 5 ((try (refine drvZ Tryz.func139 ?_;simp only [go_sem,hn2]));((with_reducible and_intros)<;>try exact sd))
     refine XK.callG [5,6] hcs ok93 (hhpG (by simp [HH,upd,hOf,hpL,renCs_in,renCs_I])) (hbT ()) (fun d h' ⟨_,e⟩=>by subst e;simp) ?_
     rintro _ _ ⟨rfl,rfl⟩ _
     iterate 3 ((try (refine drvZ Tryz.func139 ?_;simp only [go_sem,renCs_in,renCs_I]));((with_reducible and_intros)<;>try exact sd))
     exact RetOb.csA (by rw [← hR];exact ⟨rfl,rfl⟩) rfl rfl (by simp [lastE,Int.reduceEq]) rfl (by simp [lastE,Int.reduceEq]) rfl (by decide) (by simp [upd,hpL,hOf,appUp,upsFrom,rkey]) (by simp [upd,hpL,hOf,appUp,upsFrom,rkey])
    ·have e3:(k == 3)=false:=by simp;omega
     have e11:(k == 11)=false:=by simp;omega
     have f3:(k=3)=False:=eq_false (by omega)
     have f11:(k=11)=False:=eq_false (by omega)
     have hcs:=csAdd L2 O2 a st 6 reg k reg ((reg:Int)+1) (by omega) (by omega)
     refine drvL Tryz.func139 ?_
     simp only [go_sem,hn2]
     iterate 5 ((try (refine drvZ Tryz.func139 ?_;simp only [go_sem,hn2,e3,e11,f3,f11]));((with_reducible and_intros)<;>try exact sd))
     refine XK.callG [5,6] hcs ok93 (hhpG (by simp [HH,upd,hOf,hpL,renCs_in,renCs_I])) (hbT ()) (fun d h' ⟨_,e⟩=>by subst e;simp) ?_
     rintro _ _ ⟨rfl,rfl⟩ _
     iterate 3 ((try (refine drvZ Tryz.func139 ?_;simp only [go_sem,renCs_in,renCs_I]));((with_reducible and_intros)<;>try exact sd))
     exact RetOb.csA (by rw [← hR];exact ⟨rfl,rfl⟩) rfl rfl (by simp [lastE,k3,k11]) rfl (by simp [lastE,k3,k11]) rfl (by decide) (by simp [upd,hpL,hOf,appUp,upsFrom,rkey]) (by simp [upd,hpL,hOf,appUp,upsFrom,rkey])
  ·simp only [go_sem,TmOK,DM,DMs,CM,CMs,forall_eq,exists_eq_left,Mq,HpOK,LowOK]
   simp [CtL.seqE,tsum,CMs_in,CMs_I]
theorem csExpr (p : Pg) (a st : Int) : ∀ d, CsOK p a st d
 | 0=>fun e reg L O h=>by simp [CtR.shape] at h
 | d+1=>csExpr1 p a st d (csExpr p a st d)
open CtL (In Cd kE cL cS seqE seqS lenS lenL lastE)
def seqO (f : Nat → St1 → List Int) (sz : St1 → Nat) : Nat → List St1 → List Int
 | _,[]=>[]
 | n,s :: r=>f n s++seqO f sz (n+sz s) r
def oS : Nat → Nat → St1 → List Int
 | 0,_,_=>[]
 | d+1,n,.mk k t ix v c b e =>
  if k=4 then [(n:Int)]++(seqO (oS d) (tsize d) (n+1) b++[(n:Int)])
  else if k=1 then List.replicate (cnt 5 v) (n:Int)++[(n:Int)]
  else if k=5 then List.replicate (cnt 5 v) (n:Int)++([(n:Int)]++[(n:Int)])
  else if k=2 then List.replicate (cnt 5 v) (n:Int)++(List.replicate (cnt 5 ix) (n:Int)++[(n:Int)])
  else List.replicate (cnt 5 v) (n:Int)++([(n:Int)]++(seqO (oS d) (tsize d) (n+1) b++([(n:Int)]++seqO (oS d) (tsize d) (n+1+lsize d b) e)))
def oL (d n:Nat) (l:List St1):List Int:=seqO (oS d) (tsize d) n l
theorem seqO_snoc (f : Nat → St1 → List Int) (sz : St1 → Nat) : ∀ (l : List St1) (n : Nat) (s : St1), seqO f sz n (l ++ [s]) = seqO f sz n l ++ f (n + (l.map sz).sum) s
 | [],n,s=>by simp [seqO]
 | a :: r,n,s=>by simp only [List.cons_append,seqO,seqO_snoc f sz r,List.append_assoc,List.map_cons,List.sum_cons,Nat.add_assoc]
theorem seqO_len {f : Nat → St1 → List Int} {sz len : St1 → Nat} : ∀ (l : List St1) (n : Nat), (∀ s ∈ l, ∀ n, (f n s).length = len s) → (seqO f sz n l).length = (l.map len).sum
 | [],n,_=>rfl
 | a :: r,n,h=>by
  simp only [seqO,List.length_append,List.map_cons,List.sum_cons]
  rw [h a (by simp),seqO_len r _ fun s hs=>h s (by simp [hs])]
theorem oS_len {p : Pg} : ∀ (d : Nat) (s : St1), stmtOK p d s = true → ∀ n, (oS d n s).length = lenS d s
 | 0,_,h,_=>by simp [stmtOK] at h
 | d+1,.mk k t ix v c bd el,h,n=>by
  obtain ⟨hh,hb,he⟩:=stmtOK_succ h
  have eb:=fun n=>seqO_len (f:=oS d) (sz:=tsize d) bd n fun s hs n=>oS_len d s (hb s hs) n
  have ee:=fun n=>seqO_len (f:=oS d) (sz:=tsize d) el n fun s hs n=>oS_len d s (he s hs) n
  rcases head_kind hh with ⟨hk,ht0,ht1,hr⟩ | ⟨rfl,ht0,ht1,hri,hai,hr⟩ | ⟨rfl,hr⟩ | ⟨rfl,hc1,hc3⟩
  ·rcases hk with rfl | rfl<;>simp [oS,lenS]
  ·simp [oS,lenS];omega
  ·simp [oS,lenS,eb,ee];omega
  ·simp [oS,lenS,eb]
theorem oL_len {p:Pg} {d n:Nat} {l:List St1} (h:∀ s ∈ l,stmtOK p d s=true):(oL d n l).length=lenL d l:=seqO_len l n fun s hs n=>oS_len d s (h s hs) n
theorem inC_cons (x:In) (l:List In):inC (x :: l)=inX x++inC l:=by simp [inC]
theorem inC_setB (A R:List In) (x:In) (n:Int):(inC (A++x :: R)).set (A.length * 5+2) (.v (.int .i64 n))=inC (A++⟨x.op,x.a,n,x.c,x.d⟩ :: R):=by
 rw [inC_app,inC_app,List.set_append_right _ _ (by rw [inC_len];omega),inC_len,inC_cons,inC_cons]
 rw [show A.length * 5+2 - A.length * 5=2 by omega];rfl
theorem inC_setA (A R:List In) (x:In) (n:Int):(inC (A++x :: R)).set (A.length * 5+1) (.v (.int .i64 n))=inC (A++⟨x.op,n,x.b,x.c,x.d⟩ :: R):=by
 rw [inC_app,inC_app,List.set_append_right _ _ (by rw [inC_len];omega),inC_len,inC_cons,inC_cons]
 rw [show A.length * 5+1 - A.length * 5=1 by omega];rfl
def CtOK (p:Pg) (d dep:Nat):Prop:=∀ (s:St1) (L:List In) (O:List Int) (n:Nat),stmtOK p d s=true→dep+d≤100→n+tsize d s≤90000→L.length+lenS d s≤80000→O.length+lenS d s≤80000 →
 DC Tryz.prog 114 [CsD 0 1 L O n,.agg s.cells,DI .i64 dep] (CsH L O) (fun r h=>r=CsD 2 3 (L++cS d dep L.length s) (O++oS d n s) ((n+tsize d s:Nat):Int)∧h=CsR (L++cS d dep L.length s) (O++oS d n s))
def CbOK (p:Pg) (d dep:Nat):Prop:=∀ (l:List St1) (L:List In) (O:List Int) (n:Nat),(∀ s ∈ l,stmtOK p d s=true)→dep+d≤100→n+lsize d l≤90000→L.length+lenL d l≤80000→O.length+lenL d l≤80000 →
 DC Tryz.prog 92 [CsD 0 1 L O n,.c (.isl 11 (St1.cellsL l)),DI .i64 dep] (CsH L O) (fun r h=>r=CsD 2 3 (L++cL d dep L.length l) (O++oL d n l) ((n+lsize d l:Nat):Int)∧h=CsR (L++cL d dep L.length l) (O++oL d n l))
theorem cbOf (p:Pg) (d dep:Nat) (hs:CtOK p d dep):CbOK p d dep:=by
 have hmx:=mx_eq
 intro l L O n hok hdep hn hL hO
 unfold CtOK at hs
 have hsum:=fun i=>tsum_le (tsize d) l i
 have hsul:=fun i=>tsum_le (lenS d) l i
 have hlz:lsize d l=(l.map (tsize d)).sum:=rfl
 have hll:lenL d l=(l.map (lenS d)).sum:=rfl
 have hlen:=len_le_sum (tsize d) l fun s hs=>stmtOK_pos (hok s hs)
 have hoki:=fun i s (h:s ∈ l.take i)=>hok s (List.mem_of_mem_take h)
 have hTl:∀ i,(cL d dep L.length (l.take i)).length=tsum (lenS d) l i:=fun i=>CtL.cL_len (hoki i)
 have hOl:∀ i,(oL d n (l.take i)).length=tsum (lenS d) l i:=fun i=>oL_len (hoki i)
 have hT:∀ i x,l[i]? = some x→cL d dep L.length (l.take (i+1))=cL d dep L.length (l.take i)++cS d dep (L++cL d dep L.length (l.take i)).length x:=fun i x hx=>by
  rw [List.take_add_one,hx,List.length_append,hTl]
  exact CtL.seqS_snoc (cS d dep) (lenS d) (l.take i) L.length x
 have hU:∀ i x,l[i]? = some x→oL d n (l.take (i+1))=oL d n (l.take i)++oS d (n+tsum (tsize d) l i) x:=fun i x hx=>by
  rw [List.take_add_one,hx]
  exact seqO_snoc (oS d) (tsize d) (l.take i) n x
 generalize hR:(fun (r:D) (h:List (Option (List C)))=>r=CsD 2 3 (L++cL d dep L.length l) (O++oL d n l) ((n+lsize d l:Nat):Int)∧h=CsR (L++cL d dep L.length l) (O++oL d n l))=R
 refine dcZ Tryz.func92 ?_
 simp only [go_sem]
 iterate 2 ((try (refine drvZ Tryz.func92 ?_;simp only [go_sem]));((with_reducible and_intros)<;>try exact sd))
 refine Go.loopQ (fun i : Nat => [(1, .c (.isl 11 (St1.cellsL l))), (2, DI .i64 dep), (3, .c (.ptr 2 0)), (6, .c (.ptr 66 0)), (7, DI .i64 i)])
  (fun i=>[(0,none),(1,none),(2,some [.msl 5 5 0 (L++cL d dep L.length (l.take i)).length,.msl 6 1 0 (O++oL d n (l.take i)).length,I64 ((n+tsum (tsize d) l i:Nat):Int)]),(66,some [.v (.slice none 0 0),.v (.slice none 0 0),I64 0]),
   (5,some (inC (L++cL d dep L.length (l.take i)))),(6,some ((O++oL d n (l.take i)).map I64))])
  4096 (fun i=>i≤l.length) (fun i=>l.length - i) ?_ 0 (fun j=>if j=5 then some 0 else if j=6 then some 1 else some j) [] _ (Nat.zero_le _) ?_
 ·intro i hi again
  rcases Nat.lt_or_ge i l.length with hlt | hge
  ·obtain ⟨⟨k,t,⟨ik,iv,iks⟩,⟨vk,vv,vks⟩,c,b,e⟩,hx⟩:∃ x,l[i]? = some x:=⟨l[i],by simp [hlt]⟩
   have hsx:=hok _ (List.mem_of_getElem? hx)
   have hti:=tsum_succ (tsize d) l i _ hx
   have htj:=tsum_succ (lenS d) l i _ hx
   have hs1:=hsum (i+1)
   have hs2:=hsul (i+1)
   have hLl:(L++cL d dep L.length (l.take i)).length=L.length+tsum (lenS d) l i:=by rw [List.length_append,hTl]
   have hOl2:(O++oL d n (l.take i)).length=O.length+tsum (lenS d) l i:=by rw [List.length_append,hOl]
   have hic:=hs _ (L++cL d dep L.length (l.take i)) (O++oL d n (l.take i)) (n+tsum (tsize d) l i) hsx hdep (by omega) (by omega) (by omega)
   have hTi:=hT i _ hx
   have hUi:=hU i _ hx
   have hLb:(L++cL d dep L.length (l.take i)).length≤90000:=by omega
   have hOb:(O++oL d n (l.take i)).length≤90000:=by omega
   rw [List.append_assoc,List.append_assoc,← hTi,← hUi,Nat.add_assoc,← hti] at hic
   simp only [St1.cells,Ex.cells,List.cons_append,List.nil_append] at hic
   generalize L++cL d dep L.length (l.take i)=L1 at *
   generalize O++oL d n (l.take i)=O1 at *
   refine drvL Tryz.func92 ?_
   simp only [go_sem,hx,hlt]
   iterate 3 ((try (refine drvZ Tryz.func92 ?_;simp only [go_sem,hx,hlt]));((with_reducible and_intros)<;>try exact sd))
   refine XK.callG [5,6] hic ok114 (hhpG (by simp [HH,upd,hOf,hpL,renCs_in,renCs_I])) (hbT ()) (fun d h' ⟨_,e⟩=>by subst e;simp) ?_ (fun _=>⟨by kernel_rfl,_,_,⟨rfl,rfl⟩,by simp⟩)
   rintro _ _ ⟨rfl,rfl⟩ _
   iterate 4 ((try (refine drvZ Tryz.func92 ?_;simp only [go_sem,renCs_in,renCs_I]));((with_reducible and_intros)<;>try exact sd))
   refine again (i+1) (fun j=>if j=5 then some 4736 else if j=6 then some 4737 else some j) [] _ hlt (by omega) ?_
   simp only [go_sem,TmOK,DM,DMs,CM,CMs,forall_eq,exists_eq_left,Mq,HpOK,LowOK]
   simp [-List.map_append,CMs_in,CMs_I]
  ·have hn2:¬ i<l.length:=by omega
   obtain rfl:i=l.length:=by omega
   have hzz:tsum (tsize d) l l.length=lsize d l:=by simp [tsum,lsize]
   clear hT hU again
   simp only [List.take_length,hzz]
   generalize L++cL d dep L.length l=L1 at *
   generalize O++oL d n l=O1 at *
   refine drvL Tryz.func92 ?_
   simp only [go_sem,hn2]
   iterate 3 ((try (refine drvZ Tryz.func92 ?_;simp only [go_sem,hn2]));((with_reducible and_intros)<;>try exact sd))
   exact RetOb.csA (by rw [← hR];exact ⟨rfl,rfl⟩) rfl rfl rfl rfl rfl rfl (by decide) (by simp [upd,hpL,hOf]) (by simp [upd,hpL,hOf])
 ·simp only [go_sem,TmOK,DM,DMs,CM,CMs,forall_eq,exists_eq_left,Mq,HpOK,LowOK]
  simp [cL,oL,seqS,seqO,tsum,CMs_in,CMs_I]
open CtL (In Cd kE cL cS seqE seqS lenS lenL lastE)
theorem ctOf (p:Pg) (d dep:Nat) (hb:CbOK p d (dep+1)):CtOK p (d+1) dep:=by
 have hmx:=mx_eq
 intro s L O n hok hdep hn hL hO
 unfold CbOK at hb
 obtain ⟨k,t,ix,v,c,bd,el⟩:=s
 have hcl:=CtL.cS_len (d+1) _ hok dep L.length
 have hol:=oS_len (d+1) _ hok n
 obtain ⟨hh,hbo,heo⟩:=stmtOK_succ hok
 have hlz1:((n:Int)+1)=((n+1:Nat):Int):=by omega
 have hts:tsize (d+1) (.mk k t ix v c bd el)=1+lsize d bd+lsize d el:=rfl
 rw [hts] at hn
 generalize hR:(fun (r:D) (h:List (Option (List C)))=>r=CsD 2 3 (L++cS (d+1) dep L.length (.mk k t ix v c bd el)) (O++oS (d+1) n (.mk k t ix v c bd el)) ((n+tsize (d+1) (.mk k t ix v c bd el):Nat):Int)∧h=CsR (L++cS (d+1) dep L.length (.mk k t ix v c bd el)) (O++oS (d+1) n (.mk k t ix v c bd el)))=R
 rw [hts] at hR
 have hI:∀ a:Int,DI .i64 a = .c (I64 a):=fun _=>rfl
 rcases head_kind hh with ⟨hk | hk,ht0,ht1,hr⟩ | ⟨hk,ht0,ht1,hri,hai,hr⟩ | ⟨hk,hr⟩ | ⟨hk,hc1,hc3⟩
 ·subst hk
  have hs:=(right_shape hr).1
  have hlv:=CtL.kE_len 5 v hs 0
  have hlen:lenS (d+1) (.mk 1 t ix v c bd el)=cnt 5 v+1:=by simp [lenS]
  rw [hlen] at hL hO
  obtain ⟨q1,q2⟩:=(CtL.head_parts hh).2.2.1 (by decide) (by decide)
  subst q1 q2
  have hcx:=csExpr p ((n+1:Nat):Int) n 5 v 0 L O hs (by omega) (by omega) (by omega)
  have hL1:(L++kE 5 v 0).length≤90000:=by rw [List.length_append];omega
  have hO1:(O++List.replicate (cnt 5 v) (n:Int)).length≤90000:=by rw [List.length_append,List.length_replicate];omega
  rw [show L++cS (d+1) dep L.length (.mk 1 t ix v c [] [])=(L++kE 5 v 0)++[(⟨3,t,0,0,0⟩:In)] by simp [cS],show O++oS (d+1) n (.mk 1 t ix v c [] [])=(O++List.replicate (cnt 5 v) (n:Int))++[(n:Int)] by simp [oS],show n+(1+lsize d []+lsize d [])=n+1 by simp [lsize]] at hR
  generalize L++kE 5 v 0=L1 at *
  generalize O++List.replicate (cnt 5 v) (n:Int)=O1 at *
  have hc2:=csAdd L1 O1 ((n+1:Nat):Int) n 3 t 0 0 0 (by omega) (by omega)
  obtain ⟨vk,vv,vks⟩:=v
  obtain ⟨ik,iv,iks⟩:=ix
  simp only [Ex.cells,Int.natCast_zero] at hcx
  refine dcZ Tryz.func114 ?_
  simp only [go_sem,renCs_in,renCs_I]
  iterate 6 ((try (refine drvZ Tryz.func114 ?_;simp only [go_sem,renCs_in,renCs_I]));((with_reducible and_intros)<;>try exact sd))
  refine XK.callG [0,1] (hcx) ok139 (hhpG (by simp [HH,upd,hOf,hpL,appUp,upsFrom,rkey,renCs_in,renCs_I])) (hbT ()) (fun d h' ⟨_,e⟩=>by subst e;simp) ?_
  rintro _ _ ⟨rfl,rfl⟩ _
  iterate 8 ((try (refine drvZ Tryz.func114 ?_;simp only [go_sem,renCs_in,renCs_I]));((with_reducible and_intros)<;>try exact sd))
  refine XK.callG [1154,1155] (hc2) ok93 (hhpG (by simp [HH,upd,hOf,hpL,appUp,upsFrom,rkey,renCs_in,renCs_I])) (hbT ()) (fun d h' ⟨_,e⟩=>by subst e;simp) ?_
  rintro _ _ ⟨rfl,rfl⟩ _
  iterate 8 ((try (refine drvZ Tryz.func114 ?_;simp only [go_sem,renCs_in,renCs_I]));((with_reducible and_intros)<;>try exact sd))
  exact RetOb.csA (by rw [← hR];exact ⟨rfl,rfl⟩) rfl rfl rfl rfl rfl rfl (by decide) (by simp [upd,hpL,hOf,appUp,upsFrom,rkey]) (by simp [upd,hpL,hOf,appUp,upsFrom,rkey])
 ·subst hk
  have hs:=(right_shape hr).1
  have hlv:=CtL.kE_len 5 v hs 0
  have hlen:lenS (d+1) (.mk 5 t ix v c bd el)=cnt 5 v+2:=by simp [lenS]
  rw [hlen] at hL hO
  obtain ⟨q1,q2⟩:=(CtL.head_parts hh).2.2.1 (by decide) (by decide)
  subst q1 q2
  have hcx:=csExpr p ((n+1:Nat):Int) n 5 v 0 L O hs (by omega) (by omega) (by omega)
  have hL1:(L++kE 5 v 0).length≤90000:=by rw [List.length_append];omega
  have hO1:(O++List.replicate (cnt 5 v) (n:Int)).length≤90000:=by rw [List.length_append,List.length_replicate];omega
  rw [show L++cS (d+1) dep L.length (.mk 5 t ix v c [] [])=((L++kE 5 v 0)++[(⟨11,0,0,0,0⟩:In)])++[(⟨3,t,0,0,0⟩:In)] by simp [cS],show O++oS (d+1) n (.mk 5 t ix v c [] [])=((O++List.replicate (cnt 5 v) (n:Int))++[(n:Int)])++[(n:Int)] by simp [oS],show n+(1+lsize d []+lsize d [])=n+1 by simp [lsize]] at hR
  generalize L++kE 5 v 0=L1 at *
  generalize O++List.replicate (cnt 5 v) (n:Int)=O1 at *
  have hc2:=csAdd L1 O1 ((n+1:Nat):Int) n 11 0 0 0 0 (by omega) (by omega)
  have hc3:=csAdd (L1++[(⟨11,0,0,0,0⟩:In)]) (O1++[(n:Int)]) ((n+1:Nat):Int) n 3 t 0 0 0 (by rw [List.length_append];simp;omega) (by rw [List.length_append];simp;omega)
  have hL2:(L1++[(⟨11,0,0,0,0⟩:In)]).length≤90001:=by rw [List.length_append];simp;omega
  have hO2:(O1++[(n:Int)]).length≤90001:=by rw [List.length_append];simp;omega
  generalize L1++[(⟨11,0,0,0,0⟩:In)]=L2 at *
  generalize O1++[(n:Int)]=O2 at *
  obtain ⟨vk,vv,vks⟩:=v
  obtain ⟨ik,iv,iks⟩:=ix
  simp only [Ex.cells,Int.natCast_zero] at hcx
  refine dcZ Tryz.func114 ?_
  simp only [go_sem,renCs_in,renCs_I]
  iterate 6 ((try (refine drvZ Tryz.func114 ?_;simp only [go_sem,renCs_in,renCs_I]));((with_reducible and_intros)<;>try exact sd))
  refine XK.callG [0,1] (hcx) ok139 (hhpG (by simp [HH,upd,hOf,hpL,appUp,upsFrom,rkey,renCs_in,renCs_I])) (hbT ()) (fun d h' ⟨_,e⟩=>by subst e;simp) ?_
  rintro _ _ ⟨rfl,rfl⟩ _
  iterate 8 ((try (refine drvZ Tryz.func114 ?_;simp only [go_sem,renCs_in,renCs_I]));((with_reducible and_intros)<;>try exact sd))
  refine XK.callG [1154,1155] (hc2) ok93 (hhpG (by simp [HH,upd,hOf,hpL,appUp,upsFrom,rkey,renCs_in,renCs_I])) (hbT ()) (fun d h' ⟨_,e⟩=>by subst e;simp) ?_
  rintro _ _ ⟨rfl,rfl⟩ _
  iterate 8 ((try (refine drvZ Tryz.func114 ?_;simp only [go_sem,renCs_in,renCs_I]));((with_reducible and_intros)<;>try exact sd))
  refine XK.callG [1858,1859] (hc3) ok93 (hhpG (by simp [HH,upd,hOf,hpL,appUp,upsFrom,rkey,renCs_in,renCs_I])) (hbT ()) (fun d h' ⟨_,e⟩=>by subst e;simp) ?_
  rintro _ _ ⟨rfl,rfl⟩ _
  iterate 8 ((try (refine drvZ Tryz.func114 ?_;simp only [go_sem,renCs_in,renCs_I]));((with_reducible and_intros)<;>try exact sd))
  exact RetOb.csA (by rw [← hR];exact ⟨rfl,rfl⟩) rfl rfl rfl rfl rfl rfl (by decide) (by simp [upd,hpL,hOf,appUp,upsFrom,rkey]) (by simp [upd,hpL,hOf,appUp,upsFrom,rkey])
 ·subst hk
  have hs:=(right_shape hr).1
  have hlv:=CtL.kE_len 5 v hs 0
  have hsi:=(right_shape hri).1
  have hli:=CtL.kE_len 5 ix hsi 1
  have hlen:lenS (d+1) (.mk 2 t ix v c bd el)=cnt 5 v+cnt 5 ix+1:=by simp [lenS]
  rw [hlen] at hL hO
  obtain ⟨q1,q2⟩:=(CtL.head_parts hh).2.2.1 (by decide) (by decide)
  subst q1 q2
  have hcx:=csExpr p ((n+1:Nat):Int) n 5 v 0 L O hs (by omega) (by omega) (by omega)
  have hL1:(L++kE 5 v 0).length=L.length+cnt 5 v:=by rw [List.length_append,hlv]
  have hO1:(O++List.replicate (cnt 5 v) (n:Int)).length=O.length+cnt 5 v:=by rw [List.length_append,List.length_replicate]
  rw [show L++cS (d+1) dep L.length (.mk 2 t ix v c [] [])=((L++kE 5 v 0)++kE 5 ix 1)++[(⟨5,t,1,0,0⟩:In)] by simp [cS],show O++oS (d+1) n (.mk 2 t ix v c [] [])=((O++List.replicate (cnt 5 v) (n:Int))++List.replicate (cnt 5 ix) (n:Int))++[(n:Int)] by simp [-List.replicate_append_replicate,oS],show n+(1+lsize d []+lsize d [])=n+1 by simp [lsize]] at hR
  generalize L++kE 5 v 0=L1 at *
  generalize O++List.replicate (cnt 5 v) (n:Int)=O1 at *
  have hc2:=csExpr p ((n+1:Nat):Int) n 5 ix 1 L1 O1 hsi (by omega) (by omega) (by omega)
  have hL2:(L1++kE 5 ix 1).length≤90000:=by rw [List.length_append];omega
  have hO2:(O1++List.replicate (cnt 5 ix) (n:Int)).length≤90000:=by rw [List.length_append,List.length_replicate];omega
  generalize L1++kE 5 ix 1=L2 at *
  generalize O1++List.replicate (cnt 5 ix) (n:Int)=O2 at *
  have hc3:=csAdd L2 O2 ((n+1:Nat):Int) n 5 t 1 0 0 (by omega) (by omega)
  obtain ⟨vk,vv,vks⟩:=v
  obtain ⟨ik,iv,iks⟩:=ix
  simp only [Ex.cells,Int.natCast_zero,Int.natCast_one] at hcx hc2
  refine dcZ Tryz.func114 ?_
  simp only [go_sem,renCs_in,renCs_I]
  iterate 6 ((try (refine drvZ Tryz.func114 ?_;simp only [go_sem,renCs_in,renCs_I]));((with_reducible and_intros)<;>try exact sd))
  refine XK.callG [0,1] (hcx) ok139 (hhpG (by simp [HH,upd,hOf,hpL,appUp,upsFrom,rkey,renCs_in,renCs_I])) (hbT ()) (fun d h' ⟨_,e⟩=>by subst e;simp) ?_
  rintro _ _ ⟨rfl,rfl⟩ _
  iterate 8 ((try (refine drvZ Tryz.func114 ?_;simp only [go_sem,renCs_in,renCs_I]));((with_reducible and_intros)<;>try exact sd))
  refine XK.callG [1154,1155] (hc2) ok139 (hhpG (by simp [HH,upd,hOf,hpL,appUp,upsFrom,rkey,renCs_in,renCs_I])) (hbT ()) (fun d h' ⟨_,e⟩=>by subst e;simp) ?_
  rintro _ _ ⟨rfl,rfl⟩ _
  iterate 8 ((try (refine drvZ Tryz.func114 ?_;simp only [go_sem,renCs_in,renCs_I]));((with_reducible and_intros)<;>try exact sd))
  refine XK.callG [2050,2051] (hc3) ok93 (hhpG (by simp [HH,upd,hOf,hpL,appUp,upsFrom,rkey,renCs_in,renCs_I])) (hbT ()) (fun d h' ⟨_,e⟩=>by subst e;simp) ?_
  rintro _ _ ⟨rfl,rfl⟩ _
  iterate 8 ((try (refine drvZ Tryz.func114 ?_;simp only [go_sem,renCs_in,renCs_I]));((with_reducible and_intros)<;>try exact sd))
  exact RetOb.csA (by rw [← hR];exact ⟨rfl,rfl⟩) rfl rfl rfl rfl rfl rfl (by decide) (by simp [upd,hpL,hOf,appUp,upsFrom,rkey]) (by simp [upd,hpL,hOf,appUp,upsFrom,rkey])
 ·subst hk
  have hs:=(right_shape hr).1
  have hlv:=CtL.kE_len 5 v hs 0
  have hlen:lenS (d+1) (.mk 3 t ix v c bd el)=cnt 5 v+lenL d bd+lenL d el+2:=by simp [lenS,lenL]
  rw [hlen] at hL hO
  have hcx:=csExpr p ((n+1:Nat):Int) n 5 v 0 L O hs (by omega) (by omega) (by omega)
  have hL1:(L++kE 5 v 0).length=L.length+cnt 5 v:=by rw [List.length_append,hlv]
  have hO1:(O++List.replicate (cnt 5 v) (n:Int)).length=O.length+cnt 5 v:=by rw [List.length_append,List.length_replicate]
  rw [show L++cS (d+1) dep L.length (.mk 3 t ix v c bd el)=(L++kE 5 v 0)++⟨9,0,(((L++kE 5 v 0).length+1+lenL d bd+1:Nat):Int),0,0⟩ :: (cL d (dep+1) ((L++kE 5 v 0).length+1) bd++⟨8,(((L++kE 5 v 0).length+1+lenL d bd+1+lenL d el:Nat):Int),0,0,0⟩ :: cL d (dep+1) ((L++kE 5 v 0).length+1+lenL d bd+1) el) by
      rw [hL1]
      simp only [cS,cL,lenL,List.append_assoc]
      simp
      refine ⟨by omega,by omega,?_⟩
      rw [show L.length+cnt 5 v+(List.map (lenS d) bd).sum+2=L.length+cnt 5 v+1+(List.map (lenS d) bd).sum+1 by omega],
   show O++oS (d+1) n (.mk 3 t ix v c bd el)=((((O++List.replicate (cnt 5 v) (n:Int))++[(n:Int)])++oL d (n+1) bd)++[(n:Int)])++oL d (n+1+lsize d bd) el by simp [oS,oL],show n+(1+lsize d bd+lsize d el)=n+1+lsize d bd+lsize d el by omega] at hR
  generalize L++kE 5 v 0=L1 at *
  generalize O++List.replicate (cnt 5 v) (n:Int)=O1 at *
  have hc2:=csAdd L1 O1 ((n+1:Nat):Int) n 9 0 0 0 0 (by omega) (by omega)
  obtain ⟨N4,hN4⟩:∃ N:Nat,N=L1.length+1+lenL d bd+1:=⟨_,rfl⟩
  obtain ⟨N5,hN5⟩:∃ N:Nat,N=N4+lenL d el:=⟨_,rfl⟩
  rw [← hN4,← hN5] at hR
  have hL2:(L1++[(⟨9,0,0,0,0⟩:In)]).length=L1.length+1:=by rw [List.length_append];simp
  have hO2:(O1++[(n:Int)]).length=O1.length+1:=by rw [List.length_append];simp
  have hc3:=hb bd (L1++[(⟨9,0,0,0,0⟩:In)]) (O1++[(n:Int)]) (n+1) hbo (by omega) (by omega) (by omega) (by omega)
  rw [hL2] at hc3
  have hbl:=CtL.cL_len (dep:=dep+1) (b:=L1.length+1) hbo
  have hob:=oL_len (n:=n+1) hbo
  generalize cL d (dep+1) (L1.length+1) bd=B at *
  have hL3:(L1++(⟨9,0,0,0,0⟩:In) :: B).length=L1.length+1+lenL d bd:=by rw [List.length_append,List.length_cons,hbl];omega
  have hO3:((O1++[(n:Int)])++oL d (n+1) bd).length=O1.length+1+lenL d bd:=by rw [List.length_append,hO2,hob]
  have hL3e:(L1++[(⟨9,0,0,0,0⟩:In)])++B=L1++(⟨9,0,0,0,0⟩:In) :: B:=by simp
  rw [hL3e] at hc3
  generalize L1++[(⟨9,0,0,0,0⟩:In)]=L2 at *
  generalize O1++[(n:Int)]=O2 at *
  generalize O2++oL d (n+1) bd=O3 at *
  have hc4:=csAdd (L1++(⟨9,0,0,0,0⟩:In) :: B) O3 ((n+1+lsize d bd:Nat):Int) n 8 0 0 0 0 (by omega) (by omega)
  have hL4e:(L1++(⟨9,0,0,0,0⟩:In) :: B)++[(⟨8,0,0,0,0⟩:In)]=L1++(⟨9,0,0,0,0⟩:In) :: (B++[(⟨8,0,0,0,0⟩:In)]):=by simp
  have hL4:(L1++(⟨9,0,0,0,0⟩:In) :: (B++[(⟨8,0,0,0,0⟩:In)])).length=N4:=by rw [← hL4e,List.length_append,hL3,hN4];rfl
  rw [hL4e] at hc4
  have hset:=inC_setB L1 (B++[(⟨8,0,0,0,0⟩:In)]) ⟨9,0,0,0,0⟩ (N4:Int)
  simp only at hset
  have hL4b:(L1++(⟨9,0,(N4:Int),0,0⟩:In) :: (B++[(⟨8,0,0,0,0⟩:In)])).length=N4:=by rw [← hL4];simp
  have hO4:(O3++[(n:Int)]).length=O1.length+1+lenL d bd+1:=by rw [List.length_append,hO3];rfl
  generalize O3++[(n:Int)]=O4 at *
  generalize hx9:(⟨9,0,(N4:Int),0,0⟩:In)=x9 at *
  have hc5:=hb el (L1++x9 :: (B++[(⟨8,0,0,0,0⟩:In)])) O4 (n+1+lsize d bd) heo (by omega) (by omega) (by omega) (by omega)
  rw [hL4b] at hc5
  have hel:=CtL.cL_len (dep:=dep+1) (b:=N4) heo
  generalize cL d (dep+1) N4 el=E at *
  have hL5e:(L1++x9 :: (B++[(⟨8,0,0,0,0⟩:In)]))++E=(L1++x9 :: B)++(⟨8,0,0,0,0⟩:In) :: E:=by simp
  have hL3b:(L1++x9 :: B).length=(L1++(⟨9,0,0,0,0⟩:In) :: B).length:=by simp
  have hL5:((L1++x9 :: B)++(⟨8,0,0,0,0⟩:In) :: E).length=N5:=by rw [← hL5e,List.length_append,hL4b,hel,hN5]
  rw [hL5e] at hc5
  have hset2:=inC_setA (L1++x9 :: B) E ⟨8,0,0,0,0⟩ (N5:Int)
  rw [hL3b] at hset2
  simp only at hset2
  have hfin:L1++x9 :: (B++(⟨8,(N5:Int),0,0,0⟩:In) :: E)=(L1++x9 :: B)++(⟨8,(N5:Int),0,0,0⟩:In) :: E:=by simp
  have hfl:((L1++x9 :: B)++(⟨8,(N5:Int),0,0,0⟩:In) :: E).length=N5:=by rw [← hL5];simp
  rw [hfin] at hR
  generalize (L1++x9 :: B)++(⟨8,(N5:Int),0,0,0⟩:In) :: E=L6 at *
  have hO5:(O4++oL d (n+1+lsize d bd) el).length=O4.length+lenL d el:=by rw [List.length_append,oL_len heo]
  generalize O4++oL d (n+1+lsize d bd) el=O5 at *
  generalize hG3:L1++(⟨9,0,0,0,0⟩:In) :: B=L3 at *
  generalize hG4:L1++(⟨9,0,0,0,0⟩:In) :: (B++[(⟨8,0,0,0,0⟩:In)])=L4 at *
  generalize hG4b:L1++x9 :: (B++[(⟨8,0,0,0,0⟩:In)])=L4b at *
  generalize hG5:(L1++x9 :: B)++(⟨8,0,0,0,0⟩:In) :: E=L5 at *
  have hcl4:=inC_len L4
  have hcl5:=inC_len L5
  simp only [CsD,CsH,CsR,hL4b,hL5] at hc5
  clear hG3 hG4 hG4b hG5 hL3e hL4e hL5e hfin hx9 hbl hel
  obtain ⟨vk,vv,vks⟩:=v
  obtain ⟨ik,iv,iks⟩:=ix
  simp only [Ex.cells,Int.natCast_zero] at hcx
  rw [show ((dep+1:Nat):Int)=(dep:Int)+1 by omega] at hc3 hc5
  refine dcZ Tryz.func114 ?_
  simp only [go_sem,renCs_in,renCs_I]
  iterate 6 ((try (refine drvZ Tryz.func114 ?_;simp only [go_sem,renCs_in,renCs_I]));((with_reducible and_intros)<;>try exact sd))
  refine XK.callG [0,1] (hcx) ok139 (hhpG (by simp [HH,upd,hOf,hpL,appUp,upsFrom,rkey,renCs_in,renCs_I])) (hbT ()) (fun d h' ⟨_,e⟩=>by subst e;simp) ?_
  rintro _ _ ⟨rfl,rfl⟩ _
  iterate 8 ((try (refine drvZ Tryz.func114 ?_;simp only [go_sem,renCs_in,renCs_I]));((with_reducible and_intros)<;>try exact sd))
  refine XK.callG [1154,1155] (hc2) ok93 (hhpG (by simp [HH,upd,hOf,hpL,appUp,upsFrom,rkey,renCs_in,renCs_I])) (hbT ()) (fun d h' ⟨_,e⟩=>by subst e;simp) ?_
  rintro _ _ ⟨rfl,rfl⟩ _
  iterate 8 ((try (refine drvZ Tryz.func114 ?_;simp only [go_sem,renCs_in,renCs_I]));((with_reducible and_intros)<;>try exact sd))
  refine XK.callG [2370,2371] (hc3) ok92 (hhpG (by simp [HH,upd,hOf,hpL,appUp,upsFrom,rkey,renCs_in,renCs_I])) (hbT ()) (fun d h' ⟨_,e⟩=>by subst e;simp) ?_
  rintro _ _ ⟨rfl,rfl⟩ _
  iterate 8 ((try (refine drvZ Tryz.func114 ?_;simp only [go_sem,renCs_in,renCs_I]));((with_reducible and_intros)<;>try exact sd))
  refine XK.callG [2818,2819] (hc4) ok93 (hhpG (by simp [HH,upd,hOf,hpL,appUp,upsFrom,rkey,renCs_in,renCs_I])) (hbT ()) (fun d h' ⟨_,e⟩=>by subst e;simp) ?_
  rintro _ _ ⟨rfl,rfl⟩ _
  iterate 8 ((try (refine drvZ Tryz.func114 ?_;simp only [go_sem,renCs_in,renCs_I,hcl4,hL4]));((with_reducible and_intros)<;>try exact sd))
  refine XK.callG [3394,3395] (hc5) ok92 (hhpG (by simp [HH,upd,hOf,hpL,appUp,upsFrom,rkey,renCs_in,renCs_I,hset])) (hbT ()) (fun d h' ⟨_,e⟩=>by subst e;simp) ?_
  rintro _ _ ⟨rfl,rfl⟩ _
  iterate 8 ((try (refine drvZ Tryz.func114 ?_;simp only [go_sem,renCs_in,renCs_I,hcl5,hL5]));((with_reducible and_intros)<;>try exact sd))
  exact RetOb.csA (by rw [← hR];exact ⟨rfl,rfl⟩) rfl rfl hset2 rfl hfl.symm rfl (by decide) (by simp [upd,hpL,hOf,appUp,upsFrom,rkey]) (by simp [upd,hpL,hOf,appUp,upsFrom,rkey])
 ·subst hk
  have hlen:lenS (d+1) (.mk 4 t ix v c bd el)=lenL d bd+2:=by simp [lenS,lenL]
  rw [hlen] at hL hO
  obtain ⟨q1,q2,q3⟩:=(CtL.head_parts hh).1 rfl
  subst q1
  have hc2:=csAdd L O ((n+1:Nat):Int) n 1 (9+dep) c 0 0 (by omega) (by omega)
  have hL2:(L++[(⟨1,9+dep,c,0,0⟩:In)]).length=L.length+1:=by rw [List.length_append];simp
  have hO2:(O++[(n:Int)]).length=O.length+1:=by rw [List.length_append];simp
  have hc3:=hb bd (L++[(⟨1,9+dep,c,0,0⟩:In)]) (O++[(n:Int)]) (n+1) hbo (by omega) (by omega) (by omega) (by omega)
  have hbl:=CtL.cL_len (dep:=dep+1) (b:=L.length+1) hbo
  have hob:=oL_len (n:=n+1) hbo
  rw [hL2] at hc3
  rw [show L++cS (d+1) dep L.length (.mk 4 t ix v c bd [])=((L++[(⟨1,9+dep,c,0,0⟩:In)])++cL d (dep+1) (L.length+1) bd)++[⟨10,9+dep,((L.length+1:Nat):Int),0,0⟩] by simp [cS,cL],
   show O++oS (d+1) n (.mk 4 t ix v c bd [])=((O++[(n:Int)])++oL d (n+1) bd)++[(n:Int)] by simp [oS,oL],show n+(1+lsize d bd+lsize d [])=n+1+lsize d bd by simp [lsize,Nat.add_assoc]] at hR
  have hL3:((L++[(⟨1,9+dep,c,0,0⟩:In)])++cL d (dep+1) (L.length+1) bd).length≤90000:=by rw [List.length_append];omega
  have hO3:((O++[(n:Int)])++oL d (n+1) bd).length≤90000:=by rw [List.length_append];omega
  generalize (L++[(⟨1,9+dep,c,0,0⟩:In)])++cL d (dep+1) (L.length+1) bd=L3 at *
  generalize (O++[(n:Int)])++oL d (n+1) bd=O3 at *
  generalize L++[(⟨1,9+dep,c,0,0⟩:In)]=L2 at *
  generalize O++[(n:Int)]=O2 at *
  have hc4:=csAdd L3 O3 ((n+1+lsize d bd:Nat):Int) n 10 (9+dep) ((L.length+1:Nat):Int) 0 0 (by omega) (by omega)
  obtain ⟨vk,vv,vks⟩:=v
  obtain ⟨ik,iv,iks⟩:=ix
  rw [show ((dep+1:Nat):Int)=(dep:Int)+1 by omega] at hc3
  refine dcZ Tryz.func114 ?_
  simp only [go_sem,renCs_in,renCs_I]
  iterate 8 ((try (refine drvZ Tryz.func114 ?_;simp only [go_sem,renCs_in,renCs_I]));((with_reducible and_intros)<;>try exact sd))
  refine XK.callG [0,1] (hc2) ok93 (hhpG (by simp [HH,upd,hOf,hpL,appUp,upsFrom,rkey,renCs_in,renCs_I])) (hbT ()) (fun d h' ⟨_,e⟩=>by subst e;simp) ?_
  rintro _ _ ⟨rfl,rfl⟩ _
  iterate 8 ((try (refine drvZ Tryz.func114 ?_;simp only [go_sem,renCs_in,renCs_I]));((with_reducible and_intros)<;>try exact sd))
  refine XK.callG [2114,2115] (hc3) ok92 (hhpG (by simp [HH,upd,hOf,hpL,appUp,upsFrom,rkey,renCs_in,renCs_I])) (hbT ()) (fun d h' ⟨_,e⟩=>by subst e;simp) ?_
  rintro _ _ ⟨rfl,rfl⟩ _
  iterate 8 ((try (refine drvZ Tryz.func114 ?_;simp only [go_sem,renCs_in,renCs_I,hL2]));((with_reducible and_intros)<;>try exact sd))
  refine XK.callG [2818,2819] (hc4) ok93 (hhpG (by simp [HH,upd,hOf,hpL,appUp,upsFrom,rkey,renCs_in,renCs_I])) (hbT ()) (fun d h' ⟨_,e⟩=>by subst e;simp) ?_
  rintro _ _ ⟨rfl,rfl⟩ _
  iterate 8 ((try (refine drvZ Tryz.func114 ?_;simp only [go_sem,renCs_in,renCs_I]));((with_reducible and_intros)<;>try exact sd))
  exact RetOb.csA (by rw [← hR];exact ⟨rfl,rfl⟩) rfl rfl rfl rfl rfl rfl (by decide) (by simp [upd,hpL,hOf,appUp,upsFrom,rkey]) (by simp [upd,hpL,hOf,appUp,upsFrom,rkey])
open CtL (In Cd kE cL cS seqE seqS lenS lenL lastE compL compP halt)
theorem ctAll (p : Pg) : ∀ (d dep : Nat), CtOK p d dep ∧ CbOK p d dep
 | 0,dep=>by
  have h:CtOK p 0 dep:=fun s L O n h=>by simp [stmtOK] at h
  exact ⟨h,cbOf p 0 dep h⟩
 | d+1,dep=>by
  have h:=ctOf p d dep (ctAll p d (dep+1)).2
  exact ⟨h,cbOf p (d+1) dep h⟩
theorem sum_le_mul (f g : St1 → Nat) (k : Nat) : ∀ l : List St1, (∀ s ∈ l, f s ≤ k * g s) → (l.map f).sum ≤ k * (l.map g).sum
 | [],_=>by simp
 | a :: r,h=>by
  have h1:=h a (by simp)
  have h2:=sum_le_mul f g k r fun s hs=>h s (by simp [hs])
  simp only [List.map_cons,List.sum_cons,Nat.mul_add]
  omega
theorem lenS_le {p : Pg} : ∀ (d : Nat) (s : St1), stmtOK p d s = true → lenS d s ≤ 40 * tsize d s
 | 0,_,h=>by simp [stmtOK] at h
 | d+1,.mk k t ix v c bd el,h=>by
  obtain ⟨hh,hb,he⟩:=stmtOK_succ h
  have h1:=sum_le_mul (lenS d) (tsize d) 40 bd fun s hs=>lenS_le d s (hb s hs)
  have h2:=sum_le_mul (lenS d) (tsize d) 40 el fun s hs=>lenS_le d s (he s hs)
  have hts:tsize (d+1) (.mk k t ix v c bd el)=1+(bd.map (tsize d)).sum+(el.map (tsize d)).sum:=rfl
  rw [hts]
  rcases head_kind hh with ⟨hk,ht0,ht1,hr⟩ | ⟨rfl,ht0,ht1,hri,hai,hr⟩ | ⟨rfl,hr⟩ | ⟨rfl,hc1,hc3⟩
  ·have:=(right_shape hr).2
   rcases hk with rfl | rfl<;>simp [lenS]<;>omega
  ·have:=(right_shape hr).2
   have:=(right_shape hri).2
   simp [lenS];omega
  ·have:=(right_shape hr).2
   simp [lenS];omega
  ·simp [lenS];omega
theorem lenL_le {p:Pg} (h:progOK p=true):lenL 5 p.body≤2400:=by
 have h1:=sum_le_mul (lenS 5) (tsize 5) 40 p.body fun s hs=>lenS_le 5 s ((body_of h).1 s hs)
 have h2:=(body_of h).2
 unfold lenL;unfold lsize at h2;omega
def ownL (p:Pg):List Int:=oL 5 0 p.body++[-1]
def cdC (c:Cd):List C:=[isI c.vars,isI c.arrays,.isl 5 (c.list.map inX)]
def l7R (p:Pg) (r:D) (h:List (Option (List C))):Prop :=
 if (compP p).2=true then r = .tup [CsD 0 1 (compL p) (ownL p) (lsize 5 p.body:Nat),DB true]∧h=CsH (compL p) (ownL p)
 else r = .tup [.agg [.v (.slice none 0 0),.v (.slice none 0 0),I64 0],DB false]∧h=[]
theorem compileS (p:Pg) (hv:p.vars.length≤2000000) (ha:p.arrays.length≤2000000) (hz:lsize 5 p.body≤1099511627776):DC Tryz.prog 68 [.agg p.cells] [] (l7R p):=by
 have hmx:=mx_eq
 have hpv:=programValidS p (by omega) (by omega) hz
 cases hok:progOK p with
 | false =>
  have hR:l7R p=fun r h=>r = .tup [.agg [.v (.slice none 0 0),.v (.slice none 0 0),I64 0],DB false]∧h=[]:=by
   funext r h;simp [l7R,compP,hok]
  rw [hR]
  rw [hok] at hpv
  obtain ⟨vs,ar,bd⟩:=p
  refine dcZ Tryz.func68 ?_
  simp only [go_sem]
  iterate 5 ((try (refine drvZ Tryz.func68 ?_;simp only [go_sem]));((with_reducible and_intros)<;>try exact sd);(try first | refine XK.p hpv ok70 ?_ | refine XK.gp hpv ok70 ?_))
  refine RetOb.ofQ (fun _=>none) [] (.tup [.agg [.v (.slice none 0 0),.v (.slice none 0 0),I64 0],DB false]) [] ?_ ⟨rfl,rfl⟩ (by simp)
  simp [enumL,DM,DMs,CM,CMs,HpOK,LowOK]
 | true =>
  rw [hok] at hpv
  have hbo:=body_of hok
  have hll:=lenL_le hok
  have hlen:=CtL.compL_len hok
  have hol:=oL_len (n:=0) hbo.1
  have hcl:=CtL.cL_len (dep:=0) (b:=0) hbo.1
  have hcb:=(ctAll p 5 0).2 p.body [] [] 0 hbo.1 (by omega) (by omega) (by simp;omega) (by simp;omega)
  have hR:l7R p=if lenL 5 p.body+1≤400 then (fun r h=>r = .tup [CsD 0 1 (compL p) (ownL p) (lsize 5 p.body:Nat),DB true]∧h=CsH (compL p) (ownL p)) else (fun r h=>r = .tup [.agg [.v (.slice none 0 0),.v (.slice none 0 0),I64 0],DB false]∧h=[]):=by
   funext r h
   by_cases hl:lenL 5 p.body+1≤400<;>simp [l7R,compP,hok,hl]
  rw [hR]
  clear hR
  rw [show compL p=cL 5 0 0 p.body++[halt] from rfl,show ownL p=oL 5 0 p.body++[-1] from rfl]
  rw [show compL p=cL 5 0 0 p.body++[halt] from rfl] at hlen
  simp only [List.nil_append,List.length_nil,Nat.zero_add,Int.natCast_zero] at hcb
  have had:=csAdd (cL 5 0 0 p.body) (oL 5 0 p.body) (lsize 5 p.body:Nat) (-1) 13 0 0 0 0 (by omega) (by omega)
  generalize cL 5 0 0 p.body=B at *
  generalize oL 5 0 p.body=W at *
  generalize lenL 5 p.body=N at *
  generalize lsize 5 p.body=M at *
  generalize hRR:(if N+1≤400 then (fun (r:D) (h:List (Option (List C)))=>r = .tup [CsD 0 1 (B++[halt]) (W++[-1]) (M:Int),DB true]∧h=CsH (B++[halt]) (W++[-1])) else _)=R
  obtain ⟨vs,ar,bd⟩:=p
  refine dcZ Tryz.func68 ?_
  simp only [go_sem]
  iterate 5 ((try (refine drvZ Tryz.func68 ?_;simp only [go_sem]));((with_reducible and_intros)<;>try exact sd);(try first | refine XK.p hpv ok70 ?_ | refine XK.gp hpv ok70 ?_))
  refine XK.subQ (r := fun j => if j = 5 then none else if j = 6 then none else some j) (fz := []) (tl := [(2, .c (.ptr 64 0)), (9, CsD 5 6 [] [] 0), (11, .c (.isl 11 (St1.cellsL bd)))])
   (hl:=[(64,some [.v (.slice none 0 0),.v (.slice none 0 0),I64 0]),(5,some []),(6,some [])]) ?_ ?_
  ·simp only [go_sem,TmOK,DM,DMs,CM,CMs,forall_eq,exists_eq_left,Mq,HpOK,LowOK]
   simp
  refine XK.callG [5,6] hcb ok92 (hhpG (by simp [HH,upd,hOf,hpL,appUp,upsFrom,rkey,inC,renCs])) (hbT ()) (fun d h' ⟨_,e⟩=>by subst e;simp) ?_
  rintro _ _ ⟨rfl,rfl⟩ _
  iterate 4 ((try (refine drvZ Tryz.func68 ?_;simp only [go_sem,renCs_in,renCs_I]));((with_reducible and_intros)<;>try exact sd))
  have hBl:(B++[halt]).length=N+1:=hlen
  rw [show [(⟨13,0,0,0,0⟩:In)]=[halt] from rfl] at had
  generalize B++[halt]=B1 at *
  have hWl:(W++[(-1:Int)]).length≤100000:=by rw [List.length_append];simp;omega
  generalize W++[(-1:Int)]=W1 at *
  by_cases hN:N+1≤400
  ·have hcmp:((400:Int)<((N:Int)+1))=False:=eq_false (by omega)
   rw [if_pos hN] at hRR
   refine XK.callG [576,577] had ok93 (hhpG (by simp [HH,upd,hOf,hpL,appUp,upsFrom,rkey,renCs_in,renCs_I])) (hbT ()) (fun d h' ⟨_,e⟩=>by subst e;simp) ?_
   rintro _ _ ⟨rfl,rfl⟩ _
   iterate 6 ((try (refine drvZ Tryz.func68 ?_;simp only [go_sem,renCs_in,renCs_I,hBl,hcmp]));((with_reducible and_intros)<;>try exact sd))
   refine RetOb.ofQ (fun j=>if j=0 then some 896 else if j=1 then some 897 else some j) [] (.tup [CsD 0 1 B1 W1 (M:Int),DB true]) (CsH B1 W1) ?_ (by rw [← hRR];exact ⟨rfl,rfl⟩) (by simp)
   simp [enumL,hOf,DM,DMs,CM,CMs,HpOK,LowOK,upd,appUp,upsFrom,rkey,wkey,hBl,CMs_I,CMs_in,renCs_in,renCs_I]
  ·have hcmp:((400:Int)<((N:Int)+1))=True:=eq_true (by omega)
   rw [if_neg hN] at hRR
   refine XK.callG [576,577] had ok93 (hhpG (by simp [HH,upd,hOf,hpL,appUp,upsFrom,rkey,renCs_in,renCs_I])) (hbT ()) (fun d h' ⟨_,e⟩=>by subst e;simp) ?_
   rintro _ _ ⟨rfl,rfl⟩ _
   iterate 6 ((try (refine drvZ Tryz.func68 ?_;simp only [go_sem,renCs_in,renCs_I,hBl,hcmp]));((with_reducible and_intros)<;>try exact sd))
   refine RetOb.ofQ (fun _=>none) [] (.tup [.agg [.v (.slice none 0 0),.v (.slice none 0 0),I64 0],DB false]) [] ?_ (by rw [← hRR];exact ⟨rfl,rfl⟩) (by simp)
   simp [enumL,DM,DMs,CM,CMs,HpOK,LowOK]
theorem I_len1 (l:List Int):∀ x ∈ l.map (fun n=>[I64 n]),x.length=1:=fun x hx=>by obtain ⟨e,_,rfl⟩:=List.mem_map.1 hx;rfl
theorem I_kf1 (l:List Int):∀ x ∈ l.map (fun n=>[I64 n]),∀ c ∈ x,kf c=true:=fun x hx c hc=>by
 obtain ⟨e,_,rfl⟩:=List.mem_map.1 hx
 rw [List.mem_singleton.1 hc];rfl
theorem in_flat (l:List In):(l.map inX).flatten=inC l:=rfl
theorem in_len5 (l:List In):∀ x ∈ l.map inX,x.length=5:=fun x hx=>by obtain ⟨e,_,rfl⟩:=List.mem_map.1 hx;rfl
theorem in_kf5 (l:List In):∀ x ∈ l.map inX,∀ c ∈ x,kf c=true:=fun x hx c hc=>inC_kf l c (List.mem_flatten.2 ⟨x,hx,hc⟩)
theorem RetOb.cd0 {R:D→List (Option (List C))→Prop} {hp:Hp} {x:Bool} (hR:R (.tup [.agg (cdC ⟨[],[],[]⟩),DB x]) []):RetOb 0 R (.tup [.agg [.v (.slice none 0 0),.v (.slice none 0 0),.v (.slice none 0 0)],DB x]) hp:=by
 refine RetOb.ofQ (fun _=>none) [] (.tup [.agg (cdC ⟨[],[],[]⟩),DB x]) [] ?_ hR (by simp)
 simp [enumL,DM,DMs,CM,CMs,HpOK,LowOK,cdC,isI]
theorem compProgS (p:Pg) (hv:p.vars.length≤2000000) (ha:p.arrays.length≤2000000) (hz:lsize 5 p.body≤1099511627776):DC Tryz.prog 41 [.agg p.cells] [] (fun r h=>r = .tup [.agg (cdC (compP p).1),DB (compP p).2]∧h=[]):=by
 have hmx:=mx_eq
 have hc:=compileS p hv ha hz
 generalize hR:(fun (r:D) (h:List (Option (List C)))=>r = .tup [.agg (cdC (compP p).1),DB (compP p).2]∧h=[])=R
 by_cases hok:progOK p=true∧lenL 5 p.body+1≤400
 ·have hcp:compP p=(⟨p.vars,p.arrays,compL p⟩,true):=if_pos hok
  rw [hcp] at hR
  rw [show l7R p=fun r h=>r = .tup [CsD 0 1 (compL p) (ownL p) (lsize 5 p.body:Nat),DB true]∧h=CsH (compL p) (ownL p) by funext r h;simp [l7R,hcp]] at hc
  generalize compL p=B at *
  generalize ownL p=W at *
  generalize lsize 5 p.body=M at *
  obtain ⟨vs,ar,bd⟩:=p
  simp only at hv ha
  have hgv:=flat_I vs
  have hga:=flat_I ar
  have e1:=in_len5 B
  have e2:=in_kf5 B
  refine dcZ Tryz.func41 ?_
  simp only [go_sem]
  iterate 2 ((try (refine drvZ Tryz.func41 ?_;simp only [go_sem]));((with_reducible and_intros)<;>try exact sd))
  refine XK.callG [] hc ok68 (fun i' x h=>by simp at h) (hbT ()) (fun d h' ⟨_,e⟩=>by subst e;simp) ?_
  rintro _ _ ⟨rfl,rfl⟩ _
  iterate 8 ((try (refine drvZ Tryz.func41 ?_;simp only [go_sem,renCs_in,renCs_I,flat_I']));((with_reducible and_intros)<;>try exact sd))
  refine RetOb.ofQ (fun j=>none) [1024,1280,256] (.tup [.agg [.isl 1 (vs.map fun n=>[I64 n]),.isl 1 (ar.map fun n=>[I64 n]),.isl 5 (B.map inX)],DB true]) [] ?_ (by rw [← hR];exact ⟨rfl,rfl⟩) (by simp)
  simp [-List.mem_map,enumL,hOf,DM,DMs,CM,CMs,HpOK,LowOK,upd,hgv,hga,List.take_of_length_le,appUp,upsFrom,rkey,wkey,renCs_in,in_flat]
  exact ⟨⟨I_len1 _,I_kf1 _⟩,⟨I_len1 _,I_kf1 _⟩,e1,e2⟩
 ·have hcp:compP p=(⟨[],[],[]⟩,false):=if_neg hok
  rw [hcp] at hR
  rw [show l7R p=fun r h=>r = .tup [.agg [.v (.slice none 0 0),.v (.slice none 0 0),I64 0],DB false]∧h=[] by funext r h;simp [l7R,hcp]] at hc
  obtain ⟨vs,ar,bd⟩:=p
  refine dcZ Tryz.func41 ?_
  simp only [go_sem]
  iterate 2 ((try (refine drvZ Tryz.func41 ?_;simp only [go_sem]));((with_reducible and_intros)<;>try exact sd))
  refine XK.callG [] hc ok68 (fun i' x h=>by simp at h) (hbT ()) (fun d h' ⟨_,e⟩=>by subst e;simp) ?_
  rintro _ _ ⟨rfl,rfl⟩ _
  iterate 5 ((try (refine drvZ Tryz.func41 ?_;simp only [go_sem]));((with_reducible and_intros)<;>try exact sd))
  exact RetOb.cd0 (by rw [← hR];exact ⟨rfl,rfl⟩)
end Go.Proofs.YtoakidkcppinpaaGreat.CtD
