/- Contracts of functions of the program, one behind the other, as plain data: what each call returns and which blocks it leaves. -/
import Derived.Test.YtbknljofedfpjaaGreatYFacts
import Derived.Test.YtbknljofedfpjaaGreatYAi
import Derived.Test.YtbknljofedfpjaaGreatYAk
import Derived.Test.YtbknljofedfpjaaGreatYAl
import Derived.Test.YtbknljofedfpjaaGreatYAm
import Derived.Test.YtbknljofedfpjaaGreatYAn
import Derived.Test.YtbknljofedfpjaaGreatYAr
import Derived.Test.YtbknljofedfpjaaGreatYAs
import Derived.Test.YtbknljofedfpjaaGreatYAt
import Derived.Test.YtbknljofedfpjaaGreatYAo
import Derived.Test.YtbknljofedfpjaaGreatYAq
set_option linter.unusedVariables false
set_option linter.unusedSimpArgs false
set_option linter.unusedSectionVars false
set_option maxHeartbeats 16000000
set_option maxRecDepth 100000
namespace Go.Proofs.YtbknljofedfpjaaGreat.CtD
open Go Go.CT CtF CtR
variable [Yn]
open CtL (In Cd kE cL cS seqE seqS lenS lenL lastE compL compP halt)
def EbR (L:List In) (O:List Int) (ct:Int) (r:D) (h:List (Option (List C))):Prop:=r = .tup []∧∃ w:Int,h=EmR L O w ct
def EbOK (p:Pg) (d dep:Nat):Prop:=∀ (l:List St1) (L:List In) (O:List Int) (n:Nat) (ow:Int),(∀ s ∈ l,stmtOK p d s=true)→dep+d≤100→n+lsize d l≤90000→L.length+lenL d l≤80000→O.length+lenL d l≤80000 →
 DC Tryz.prog 90 [.c (.ptr 0 0),.c (.isl 11 (St1.cellsL l)),DI .i64 dep] (EmH L O ow n) (EbR (L++cL d dep L.length l) (O++oL d n l) ((n+lsize d l:Nat):Int))
theorem ebOf (p:Pg) (d dep:Nat) (hb:∀ d',d=d' + 1→EbOK p d' (dep+1)):EbOK p d dep:=by
 have hmx:=mx_eq
 intro l L O n ow hok hdep hn hL hO
 unfold EbOK at hb
 have hsum:=fun i=>tsum_le (tsize d) l i
 have hsul:=fun i=>tsum_le (lenS d) l i
 have hlz:lsize d l=(l.map (tsize d)).sum:=rfl
 have hll:lenL d l=(l.map (lenS d)).sum:=rfl
 have hlen:=len_le_sum (tsize d) l fun s hs=>stmtOK_pos (hok s hs)
 have hoki:=fun i s (h:s ∈ l.take i)=>hok s (List.mem_of_mem_take h)
 have hTl:∀ i,(cL d dep L.length (l.take i)).length=tsum (lenS d) l i:=fun i=>CtL.cL_len (hoki i)
 have hOl:∀ i,(oL d n (l.take i)).length=tsum (lenS d) l i:=fun i=>oL_len (hoki i)
 have hT:∀ i x,l[i]? = some x→L++cL d dep L.length (l.take (i+1))=(L++cL d dep L.length (l.take i))++cS d dep (L++cL d dep L.length (l.take i)).length x:=fun i x hx=>by
  rw [List.take_add_one,hx,List.length_append,hTl,List.append_assoc]
  exact congrArg (L ++ ·) (CtL.seqS_snoc (cS d dep) (lenS d) (l.take i) L.length x)
 have hU:∀ i x,l[i]? = some x→O++oL d n (l.take (i+1))=(O++oL d n (l.take i))++oS d (n+tsum (tsize d) l i) x:=fun i x hx=>by
  rw [List.take_add_one,hx,List.append_assoc]
  exact congrArg (O ++ ·) (seqO_snoc (oS d) (tsize d) (l.take i) n x)
 generalize hR:EbR (L++cL d dep L.length l) (O++oL d n l) ((n+lsize d l:Nat):Int)=R
 refine dcZ Tryz.func90 ?_
 simp only [go_sem]
 iterate 2 ((try (refine drvZ Tryz.func90 ?_;simp only [go_sem]));((with_reducible and_intros)<;>try exact sd))
 refine Go.loopQ (fun x : Nat × Int => [(0, .c (.ptr 0 0)), (2, DI .i64 dep), (13, .c (.isl 11 (St1.cellsL l))), (14, DI .i64 l.length), (15, DI .i64 x.1)])
  (fun x=>[(0,some [.msl 5 5 0 (L++cL d dep L.length (l.take x.1)).length,.msl 6 1 0 (O++oL d n (l.take x.1)).length,I64 x.2,I64 ((n+tsum (tsize d) l x.1:Nat):Int)]),(1,none),(2,none),
   (5,some (inC (L++cL d dep L.length (l.take x.1)))),(6,some ((O++oL d n (l.take x.1)).map I64))])
  8192 (fun x=>x.1≤l.length) (fun x=>l.length - x.1) ?_ (0,ow) (fun j=>if j=5 then some 1 else if j=6 then some 2 else some j) [] _ (Nat.zero_le _) ?_
 ·rintro ⟨i,wi⟩ hi again
  simp only at hi
  rcases Nat.lt_or_ge i l.length with hlt | hge
  ·obtain ⟨⟨k,t,ix,v,c,bd,el⟩,hx⟩:∃ x,l[i]? = some x:=⟨l[i],by simp [hlt]⟩
   have hso:=hok _ (List.mem_of_getElem? hx)
   obtain ⟨d,rfl⟩:∃ d',d=d' + 1:=by
    cases d with
    | zero=>simp [stmtOK] at hso
    | succ d=>exact ⟨d,rfl⟩
   have hb:=hb d rfl
   obtain ⟨hh,hbo,heo⟩:=stmtOK_succ hso
   have hti:=tsum_succ (tsize (d+1)) l i _ hx
   have htj:=tsum_succ (lenS (d+1)) l i _ hx
   have hs1:=hsum (i+1)
   have hs2:=hsul (i+1)
   have hLl:(L++cL (d+1) dep L.length (l.take i)).length=L.length+tsum (lenS (d+1)) l i:=by rw [List.length_append,hTl]
   have hOl2:(O++oL (d+1) n (l.take i)).length=O.length+tsum (lenS (d+1)) l i:=by rw [List.length_append,hOl]
   have hTi:=hT i _ hx
   have hUi:=hU i _ hx
   have hni:((n+tsum (tsize (d+1)) l (i+1):Nat):Int)=((n+tsum (tsize (d+1)) l i+tsize (d+1) (.mk k t ix v c bd el):Nat):Int):=by rw [hti,Nat.add_assoc]
   have hts:tsize (d+1) (.mk k t ix v c bd el)=1+lsize d bd+lsize d el:=rfl
   rw [hts] at hni hti
   have hLb:(L++cL (d+1) dep L.length (l.take i)).length+lenS (d+1) (.mk k t ix v c bd el)≤80000:=by omega
   have hOb:(O++oL (d+1) n (l.take i)).length+lenS (d+1) (.mk k t ix v c bd el)≤80000:=by omega
   have hnb:n+tsum (tsize (d+1)) l i+(1+lsize d bd+lsize d el)≤90000:=by omega
   have hl9:l.length≤90000:=by omega
   simp only
   generalize hLz:L++cL (d+1) dep L.length (l.take (i+1))=Lz at *
   generalize hOz:O++oL (d+1) n (l.take (i+1))=Oz at *
   generalize L++cL (d+1) dep L.length (l.take i)=LL at *
   generalize O++oL (d+1) n (l.take i)=OO at *
   generalize hNZ:n+tsum (tsize (d+1)) l (i+1)=nz at *
   generalize n+tsum (tsize (d+1)) l i=nn at *
   clear hT hU hTl hOl hLl hOl2 hsum hsul hoki hs1 hs2 hti htj hlz hll
   rcases head_kind hh with ⟨hk | hk,ht0,ht1,hr⟩ | ⟨hk,ht0,ht1,hri,hai,hr⟩ | ⟨hk,hr⟩ | ⟨hk,hc1,hc3⟩
   ·subst hk
    have hs:=(right_shape hr).1
    have hlv:=CtL.kE_len 5 v hs 0
    have hlen:lenS (d+1) (.mk 1 t ix v c bd el)=cnt 5 v+1:=by simp [lenS]
    rw [hlen] at hLb hOb
    obtain ⟨q1,q2⟩:=(CtL.head_parts hh).2.2.1 (by decide) (by decide)
    subst q1 q2
    have hcx:=ceExpr p nn ((nn+1:Nat):Int) 5 v 0 LL OO hs (by omega) (by omega) (by omega)
    have hL1:(LL++kE 5 v 0).length≤90000:=by rw [List.length_append];omega
    have hO1:(OO++List.replicate (cnt 5 v) (nn:Int)).length≤90000:=by rw [List.length_append,List.length_replicate];omega
    rw [show LL++cS (d+1) dep LL.length (.mk 1 t ix v c [] [])=(LL++kE 5 v 0)++[⟨3,t,0,0,0⟩] by simp [cS]] at hTi
    rw [show OO++oS (d+1) nn (.mk 1 t ix v c [] [])=(OO++List.replicate (cnt 5 v) (nn:Int))++[(nn:Int)] by simp [oS]] at hUi
    rw [show nn+(1+lsize d []+lsize d [])=nn+1 by simp [lsize]] at hni
    generalize LL++kE 5 v 0=L1 at *
    generalize OO++List.replicate (cnt 5 v) (nn:Int)=O1 at *
    have hc2:=emitI [t,0] 3 t 0 0 0 [0,0] rfl (by simp) L1 O1 nn ((nn+1:Nat):Int) (by omega) (by omega)
    obtain ⟨vk,vv,vks⟩:=v
    obtain ⟨ik,iv,iks⟩:=ix
    simp only [Ex.cells,Int.natCast_zero] at hcx
    refine drvL Tryz.func90 ?_
    simp only [go_sem,hx,hlt,renCs_in,renCs_I]
    iterate 8 ((try (refine drvZ Tryz.func90 ?_;simp only [go_sem,hx,hlt,renCs_in,renCs_I]));((with_reducible and_intros)<;>try exact sd))
    refine XK.callG [0,5,6] (hcx) ok132 (hhpG (by simp [HH,upd,hOf,hpL,appUp,upsFrom,rkey,rk0,renCs_in,renCs_I,renCs,renC])) (hbT ()) (fun d h' ⟨_,e⟩=>by subst e;simp) ?_
    rintro _ _ ⟨rfl,rfl⟩ _
    iterate 8 ((try (refine drvZ Tryz.func90 ?_;simp only [go_sem,hx,hlt,renCs_in,renCs_I]));((with_reducible and_intros)<;>try exact sd))
    refine XK.callG [0,10048,10049,10560] (hc2) ok91 (hhpG (by simp [HH,upd,hOf,hpL,appUp,upsFrom,rkey,rk0,renCs_in,renCs_I,renCs,renC])) (hbT ()) (fun d h' ⟨_,e⟩=>by subst e;simp) ?_
    rintro _ _ ⟨rfl,rfl⟩ _
    iterate 8 ((try (refine drvZ Tryz.func90 ?_;simp only [go_sem,hx,hlt,renCs_in,renCs_I]));((with_reducible and_intros)<;>try exact sd))
    refine again (i+1,nn) (fun j=>if j=5 then some 10624 else if j=6 then some 10625 else some j) [] _ hlt (by simp only;omega) ?_
    simp only [hLz,hOz,hNZ,hTi,hUi,hni]
    simp only [go_sem,TmOK,DM,DMs,CM,CMs,forall_eq,exists_eq_left,Mq,HpOK,LowOK]
    simp [-List.map_append,CMs_in,CMs_I]
   ·subst hk
    have hs:=(right_shape hr).1
    have hlv:=CtL.kE_len 5 v hs 0
    have hlen:lenS (d+1) (.mk 5 t ix v c bd el)=cnt 5 v+2:=by simp [lenS]
    rw [hlen] at hLb hOb
    obtain ⟨q1,q2⟩:=(CtL.head_parts hh).2.2.1 (by decide) (by decide)
    subst q1 q2
    have hcx:=ceExpr p nn ((nn+1:Nat):Int) 5 v 0 LL OO hs (by omega) (by omega) (by omega)
    have hL1:(LL++kE 5 v 0).length≤90000:=by rw [List.length_append];omega
    have hO1:(OO++List.replicate (cnt 5 v) (nn:Int)).length≤90000:=by rw [List.length_append,List.length_replicate];omega
    rw [show LL++cS (d+1) dep LL.length (.mk 5 t ix v c [] [])=((LL++kE 5 v 0)++[(⟨11,0,0,0,0⟩:In)])++[⟨3,t,0,0,0⟩] by simp [cS]] at hTi
    rw [show OO++oS (d+1) nn (.mk 5 t ix v c [] [])=((OO++List.replicate (cnt 5 v) (nn:Int))++[(nn:Int)])++[(nn:Int)] by simp [oS]] at hUi
    rw [show nn+(1+lsize d []+lsize d [])=nn+1 by simp [lsize]] at hni
    generalize LL++kE 5 v 0=L1 at *
    generalize OO++List.replicate (cnt 5 v) (nn:Int)=O1 at *
    have hc2:=emitI [0] 11 0 0 0 0 [0] rfl (by simp) L1 O1 nn ((nn+1:Nat):Int) (by omega) (by omega)
    have hL2:(L1++[(⟨11,0,0,0,0⟩:In)]).length≤90001:=by rw [List.length_append];simp;omega
    have hO2:(O1++[(nn:Int)]).length≤90001:=by rw [List.length_append];simp;omega
    generalize L1++[(⟨11,0,0,0,0⟩:In)]=L2 at *
    generalize O1++[(nn:Int)]=O2 at *
    have hc3:=emitI [t,0] 3 t 0 0 0 [0,0] rfl (by simp) L2 O2 nn ((nn+1:Nat):Int) (by omega) (by omega)
    obtain ⟨vk,vv,vks⟩:=v
    obtain ⟨ik,iv,iks⟩:=ix
    simp only [Ex.cells,Int.natCast_zero] at hcx
    refine drvL Tryz.func90 ?_
    simp only [go_sem,hx,hlt,renCs_in,renCs_I]
    iterate 8 ((try (refine drvZ Tryz.func90 ?_;simp only [go_sem,hx,hlt,renCs_in,renCs_I]));((with_reducible and_intros)<;>try exact sd))
    refine XK.callG [0,5,6] (hcx) ok132 (hhpG (by simp [HH,upd,hOf,hpL,appUp,upsFrom,rkey,rk0,renCs_in,renCs_I,renCs,renC])) (hbT ()) (fun d h' ⟨_,e⟩=>by subst e;simp) ?_
    rintro _ _ ⟨rfl,rfl⟩ _
    iterate 8 ((try (refine drvZ Tryz.func90 ?_;simp only [go_sem,hx,hlt,renCs_in,renCs_I]));((with_reducible and_intros)<;>try exact sd))
    refine XK.callG [0,10048,10049,10560] (hc2) ok91 (hhpG (by simp [HH,upd,hOf,hpL,appUp,upsFrom,rkey,rk0,renCs_in,renCs_I,renCs,renC])) (hbT ()) (fun d h' ⟨_,e⟩=>by subst e;simp) ?_
    rintro _ _ ⟨rfl,rfl⟩ _
    iterate 8 ((try (refine drvZ Tryz.func90 ?_;simp only [go_sem,hx,hlt,renCs_in,renCs_I]));((with_reducible and_intros)<;>try exact sd))
    refine XK.callG [0,10624,10625,10880] (hc3) ok91 (hhpG (by simp [HH,upd,hOf,hpL,appUp,upsFrom,rkey,rk0,renCs_in,renCs_I,renCs,renC])) (hbT ()) (fun d h' ⟨_,e⟩=>by subst e;simp) ?_
    rintro _ _ ⟨rfl,rfl⟩ _
    iterate 8 ((try (refine drvZ Tryz.func90 ?_;simp only [go_sem,hx,hlt,renCs_in,renCs_I]));((with_reducible and_intros)<;>try exact sd))
    refine again (i+1,nn) (fun j=>if j=5 then some 10944 else if j=6 then some 10945 else some j) [] _ hlt (by simp only;omega) ?_
    simp only [hLz,hOz,hNZ,hTi,hUi,hni]
    simp only [go_sem,TmOK,DM,DMs,CM,CMs,forall_eq,exists_eq_left,Mq,HpOK,LowOK]
    simp [-List.map_append,CMs_in,CMs_I]
   ·subst hk
    have hs:=(right_shape hr).1
    have hlv:=CtL.kE_len 5 v hs 0
    have hsi:=(right_shape hri).1
    have hli:=CtL.kE_len 5 ix hsi 1
    have hlen:lenS (d+1) (.mk 2 t ix v c bd el)=cnt 5 v+cnt 5 ix+1:=by simp [lenS]
    rw [hlen] at hLb hOb
    obtain ⟨q1,q2⟩:=(CtL.head_parts hh).2.2.1 (by decide) (by decide)
    subst q1 q2
    have hcx:=ceExpr p nn ((nn+1:Nat):Int) 5 v 0 LL OO hs (by omega) (by omega) (by omega)
    have hL1:(LL++kE 5 v 0).length=LL.length+cnt 5 v:=by rw [List.length_append,hlv]
    have hO1:(OO++List.replicate (cnt 5 v) (nn:Int)).length=OO.length+cnt 5 v:=by rw [List.length_append,List.length_replicate]
    rw [show LL++cS (d+1) dep LL.length (.mk 2 t ix v c [] [])=((LL++kE 5 v 0)++kE 5 ix 1)++[(⟨5,t,1,0,0⟩:In)] by simp [cS]] at hTi
    rw [show OO++oS (d+1) nn (.mk 2 t ix v c [] [])=((OO++List.replicate (cnt 5 v) (nn:Int))++List.replicate (cnt 5 ix) (nn:Int))++[(nn:Int)] by simp [-List.replicate_append_replicate,oS]] at hUi
    rw [show nn+(1+lsize d []+lsize d [])=nn+1 by simp [lsize]] at hni
    generalize LL++kE 5 v 0=L1 at *
    generalize OO++List.replicate (cnt 5 v) (nn:Int)=O1 at *
    have hc2:=ceExpr p nn ((nn+1:Nat):Int) 5 ix 1 L1 O1 hsi (by omega) (by omega) (by omega)
    have hL2:(L1++kE 5 ix 1).length≤90000:=by rw [List.length_append];omega
    have hO2:(O1++List.replicate (cnt 5 ix) (nn:Int)).length≤90000:=by rw [List.length_append,List.length_replicate];omega
    generalize L1++kE 5 ix 1=L2 at *
    generalize O1++List.replicate (cnt 5 ix) (nn:Int)=O2 at *
    have hc3:=emitI [t,1,0] 5 t 1 0 0 [0,0,0] rfl (by simp) L2 O2 nn ((nn+1:Nat):Int) (by omega) (by omega)
    obtain ⟨vk,vv,vks⟩:=v
    obtain ⟨ik,iv,iks⟩:=ix
    simp only [Ex.cells,Int.natCast_zero,Int.natCast_one] at hcx hc2
    refine drvL Tryz.func90 ?_
    simp only [go_sem,hx,hlt,renCs_in,renCs_I]
    iterate 8 ((try (refine drvZ Tryz.func90 ?_;simp only [go_sem,hx,hlt,renCs_in,renCs_I]));((with_reducible and_intros)<;>try exact sd))
    refine XK.callG [0,5,6] (hcx) ok132 (hhpG (by simp [HH,upd,hOf,hpL,appUp,upsFrom,rkey,rk0,renCs_in,renCs_I,renCs,renC])) (hbT ()) (fun d h' ⟨_,e⟩=>by subst e;simp) ?_
    rintro _ _ ⟨rfl,rfl⟩ _
    iterate 8 ((try (refine drvZ Tryz.func90 ?_;simp only [go_sem,hx,hlt,renCs_in,renCs_I]));((with_reducible and_intros)<;>try exact sd))
    refine XK.callG [0,10048,10049] (hc2) ok132 (hhpG (by simp [HH,upd,hOf,hpL,appUp,upsFrom,rkey,rk0,renCs_in,renCs_I,renCs,renC])) (hbT ()) (fun d h' ⟨_,e⟩=>by subst e;simp) ?_
    rintro _ _ ⟨rfl,rfl⟩ _
    iterate 8 ((try (refine drvZ Tryz.func90 ?_;simp only [go_sem,hx,hlt,renCs_in,renCs_I]));((with_reducible and_intros)<;>try exact sd))
    refine XK.callG [0,10816,10817,11072] (hc3) ok91 (hhpG (by simp [HH,upd,hOf,hpL,appUp,upsFrom,rkey,rk0,renCs_in,renCs_I,renCs,renC])) (hbT ()) (fun d h' ⟨_,e⟩=>by subst e;simp) ?_
    rintro _ _ ⟨rfl,rfl⟩ _
    iterate 8 ((try (refine drvZ Tryz.func90 ?_;simp only [go_sem,hx,hlt,renCs_in,renCs_I]));((with_reducible and_intros)<;>try exact sd))
    refine again (i+1,nn) (fun j=>if j=5 then some 11136 else if j=6 then some 11137 else some j) [] _ hlt (by simp only;omega) ?_
    simp only [hLz,hOz,hNZ,hTi,hUi,hni]
    simp only [go_sem,TmOK,DM,DMs,CM,CMs,forall_eq,exists_eq_left,Mq,HpOK,LowOK]
    simp [-List.map_append,CMs_in,CMs_I]
   ·subst hk
    have hs:=(right_shape hr).1
    have hlv:=CtL.kE_len 5 v hs 0
    have hlen:lenS (d+1) (.mk 3 t ix v c bd el)=cnt 5 v+lenL d bd+lenL d el+2:=by simp [lenS,lenL]
    rw [hlen] at hLb hOb
    have hcx:=ceExpr p nn ((nn+1:Nat):Int) 5 v 0 LL OO hs (by omega) (by omega) (by omega)
    have hL1:(LL++kE 5 v 0).length=LL.length+cnt 5 v:=by rw [List.length_append,hlv]
    have hO1:(OO++List.replicate (cnt 5 v) (nn:Int)).length=OO.length+cnt 5 v:=by rw [List.length_append,List.length_replicate]
    rw [show LL++cS (d+1) dep LL.length (.mk 3 t ix v c bd el)=(LL++kE 5 v 0)++⟨9,0,(((LL++kE 5 v 0).length+1+lenL d bd+1:Nat):Int),0,0⟩ :: (cL d (dep+1) ((LL++kE 5 v 0).length+1) bd++⟨8,(((LL++kE 5 v 0).length+1+lenL d bd+1+lenL d el:Nat):Int),0,0,0⟩ :: cL d (dep+1) ((LL++kE 5 v 0).length+1+lenL d bd+1) el) by
        rw [hL1]
        simp only [cS,cL,lenL,List.append_assoc]
        simp
        refine ⟨by omega,by omega,?_⟩
        rw [show LL.length+cnt 5 v+(List.map (lenS d) bd).sum+2=LL.length+cnt 5 v+1+(List.map (lenS d) bd).sum+1 by omega]] at hTi
    rw [show OO++oS (d+1) nn (.mk 3 t ix v c bd el)=((((OO++List.replicate (cnt 5 v) (nn:Int))++[(nn:Int)])++oL d (nn+1) bd)++[(nn:Int)])++oL d (nn+1+lsize d bd) el by simp [oS,oL]] at hUi
    rw [show nn+(1+lsize d bd+lsize d el)=nn+1+lsize d bd+lsize d el by omega] at hni
    generalize LL++kE 5 v 0=L1 at *
    generalize OO++List.replicate (cnt 5 v) (nn:Int)=O1 at *
    have hc2:=emitI [0,0] 9 0 0 0 0 [0,0] rfl (by simp) L1 O1 nn ((nn+1:Nat):Int) (by omega) (by omega)
    obtain ⟨N4,hN4⟩:∃ N:Nat,N=L1.length+1+lenL d bd+1:=⟨_,rfl⟩
    obtain ⟨N5,hN5⟩:∃ N:Nat,N=N4+lenL d el:=⟨_,rfl⟩
    rw [← hN4,← hN5] at hTi
    have hL2:(L1++[(⟨9,0,0,0,0⟩:In)]).length=L1.length+1:=by rw [List.length_append];simp
    have hO2:(O1++[(nn:Int)]).length=O1.length+1:=by rw [List.length_append];simp
    have hc3:=hb bd (L1++[(⟨9,0,0,0,0⟩:In)]) (O1++[(nn:Int)]) (nn+1) nn hbo (by omega) (by omega) (by omega) (by omega)
    rw [hL2] at hc3
    have hbl:=CtL.cL_len (dep:=dep+1) (b:=L1.length+1) hbo
    have hob:=oL_len (n:=nn+1) hbo
    generalize cL d (dep+1) (L1.length+1) bd=B at *
    have hL3:(L1++(⟨9,0,0,0,0⟩:In) :: B).length=L1.length+1+lenL d bd:=by rw [List.length_append,List.length_cons,hbl];omega
    have hO3:((O1++[(nn:Int)])++oL d (nn+1) bd).length=O1.length+1+lenL d bd:=by rw [List.length_append,hO2,hob]
    have hL3e:(L1++[(⟨9,0,0,0,0⟩:In)])++B=L1++(⟨9,0,0,0,0⟩:In) :: B:=by simp
    rw [hL3e] at hc3
    generalize L1++[(⟨9,0,0,0,0⟩:In)]=L2 at *
    generalize O1++[(nn:Int)]=O2 at *
    generalize O2++oL d (nn+1) bd=O3 at *
    have hc4:=emitI [0] 8 0 0 0 0 [0] rfl (by simp) (L1++(⟨9,0,0,0,0⟩:In) :: B) O3 nn ((nn+1+lsize d bd:Nat):Int) (by omega) (by omega)
    have hL4e:(L1++(⟨9,0,0,0,0⟩:In) :: B)++[(⟨8,0,0,0,0⟩:In)]=L1++(⟨9,0,0,0,0⟩:In) :: (B++[(⟨8,0,0,0,0⟩:In)]):=by simp
    have hL4:(L1++(⟨9,0,0,0,0⟩:In) :: (B++[(⟨8,0,0,0,0⟩:In)])).length=N4:=by rw [← hL4e,List.length_append,hL3,hN4];rfl
    rw [hL4e] at hc4
    have hset:=inC_setB L1 (B++[(⟨8,0,0,0,0⟩:In)]) ⟨9,0,0,0,0⟩ (N4:Int)
    simp only at hset
    have hL4b:(L1++(⟨9,0,(N4:Int),0,0⟩:In) :: (B++[(⟨8,0,0,0,0⟩:In)])).length=N4:=by rw [← hL4];simp
    have hO4:(O3++[(nn:Int)]).length=O1.length+1+lenL d bd+1:=by rw [List.length_append,hO3];rfl
    generalize O3++[(nn:Int)]=O4 at *
    generalize hx9:(⟨9,0,(N4:Int),0,0⟩:In)=x9 at *
    have hc5:=hb el (L1++x9 :: (B++[(⟨8,0,0,0,0⟩:In)])) O4 (nn+1+lsize d bd) nn heo (by omega) (by omega) (by omega) (by omega)
    rw [hL4b] at hc5
    have hel:=CtL.cL_len (dep:=dep+1) (b:=N4) heo
    generalize cL d (dep+1) N4 el=E at *
    have hL5e:(L1++x9 :: (B++[(⟨8,0,0,0,0⟩:In)]))++E=(L1++x9 :: B)++(⟨8,0,0,0,0⟩:In) :: E:=by simp
    have hL3b:(L1++x9 :: B).length=(L1++(⟨9,0,0,0,0⟩:In) :: B).length:=by simp
    have hL5:((L1++x9 :: B)++(⟨8,0,0,0,0⟩:In) :: E).length=N5:=by rw [← hL5e,List.length_append,hL4b,hel,hN5]
    rw [hL5e] at hc5
    have hset2:=inC_setA (L1++x9 :: B) E ⟨8,0,0,0,0⟩ (N5:Int)
    rw [hL3b] at hset2
    simp only at hset2
    have hfin:L1++x9 :: (B++(⟨8,(N5:Int),0,0,0⟩:In) :: E)=(L1++x9 :: B)++(⟨8,(N5:Int),0,0,0⟩:In) :: E:=by simp
    have hfl:((L1++x9 :: B)++(⟨8,(N5:Int),0,0,0⟩:In) :: E).length=N5:=by rw [← hL5];simp
    rw [hfin] at hTi
    generalize (L1++x9 :: B)++(⟨8,(N5:Int),0,0,0⟩:In) :: E=L6 at *
    have hO5:(O4++oL d (nn+1+lsize d bd) el).length=O4.length+lenL d el:=by rw [List.length_append,oL_len heo]
    generalize O4++oL d (nn+1+lsize d bd) el=O5 at *
    generalize hG3:L1++(⟨9,0,0,0,0⟩:In) :: B=L3 at *
    generalize hG4:L1++(⟨9,0,0,0,0⟩:In) :: (B++[(⟨8,0,0,0,0⟩:In)])=L4 at *
    generalize hG4b:L1++x9 :: (B++[(⟨8,0,0,0,0⟩:In)])=L4b at *
    generalize hG5:(L1++x9 :: B)++(⟨8,0,0,0,0⟩:In) :: E=L5 at *
    have hcl4:=inC_len L4
    have hcl5:=inC_len L5
    simp only [EmH,EbR,EmR,hL4b,hL5] at hc5
    clear hG3 hG4 hG4b hG5 hL3e hL4e hL5e hfin hx9 hbl hel
    obtain ⟨vk,vv,vks⟩:=v
    obtain ⟨ik,iv,iks⟩:=ix
    simp only [Ex.cells,Int.natCast_zero] at hcx
    rw [show ((dep+1:Nat):Int)=(dep:Int)+1 by omega] at hc3 hc5
    refine drvL Tryz.func90 ?_
    simp only [go_sem,hx,hlt,renCs_in,renCs_I]
    iterate 8 ((try (refine drvZ Tryz.func90 ?_;simp only [go_sem,hx,hlt,renCs_in,renCs_I]));((with_reducible and_intros)<;>try exact sd))
    refine XK.callG [0,5,6] (hcx) ok132 (hhpG (by simp [HH,upd,hOf,hpL,appUp,upsFrom,rkey,rk0,renCs_in,renCs_I,renCs,renC])) (hbT ()) (fun d h' ⟨_,e⟩=>by subst e;simp) ?_
    rintro _ _ ⟨rfl,rfl⟩ _
    iterate 8 ((try (refine drvZ Tryz.func90 ?_;simp only [go_sem,hx,hlt,renCs_in,renCs_I]));((with_reducible and_intros)<;>try exact sd))
    refine XK.callG [0,10048,10049,11200] (hc2) ok91 (hhpG (by simp [HH,upd,hOf,hpL,appUp,upsFrom,rkey,rk0,renCs_in,renCs_I,renCs,renC])) (hbT ()) (fun d h' ⟨_,e⟩=>by subst e;simp) ?_
    rintro _ _ ⟨rfl,rfl⟩ _
    iterate 8 ((try (refine drvZ Tryz.func90 ?_;simp only [go_sem,hx,hlt,renCs_in,renCs_I]));((with_reducible and_intros)<;>try exact sd))
    refine XK.callG [0,11264,11265] (hc3) ok90 (hhpG (by simp [HH,upd,hOf,hpL,appUp,upsFrom,rkey,rk0,renCs_in,renCs_I,renCs,renC])) (hbT ()) (fun d h' ⟨_,_,e⟩=>by subst e;simp) ?_
    rintro _ _ ⟨rfl,w1,rfl⟩ _
    iterate 8 ((try (refine drvZ Tryz.func90 ?_;simp only [go_sem,hx,hlt,renCs_in,renCs_I]));((with_reducible and_intros)<;>try exact sd))
    refine XK.callG [0,11648,11649,12480] (hc4) ok91 (hhpG (by simp [HH,upd,hOf,hpL,appUp,upsFrom,rkey,rk0,renCs_in,renCs_I,renCs,renC])) (hbT ()) (fun d h' ⟨_,e⟩=>by subst e;simp) ?_
    rintro _ _ ⟨rfl,rfl⟩ _
    iterate 8 ((try (refine drvZ Tryz.func90 ?_;simp only [go_sem,hx,hlt,renCs_in,renCs_I,hcl4,hL4]));((with_reducible and_intros)<;>try exact sd))
    refine XK.callG [0,12544,12545] (hc5) ok90 (hhpG (by simp [HH,upd,hOf,hpL,appUp,upsFrom,rkey,rk0,renCs_in,renCs_I,renCs,renC,hset])) (hbT ()) (fun d h' ⟨_,_,e⟩=>by subst e;simp) ?_
    rintro _ _ ⟨rfl,w2,rfl⟩ _
    iterate 8 ((try (refine drvZ Tryz.func90 ?_;simp only [go_sem,hx,hlt,renCs_in,renCs_I,hcl5,hL5]));((with_reducible and_intros)<;>try exact sd))
    refine again (i+1,w2) (fun j=>if j=5 then some 13760 else if j=6 then some 13761 else some j) [] _ hlt (by simp only;omega) ?_
    simp only [hLz,hOz,hNZ,hTi,hUi,hni]
    simp only [go_sem,TmOK,DM,DMs,CM,CMs,forall_eq,exists_eq_left,Mq,HpOK,LowOK]
    simp [-List.map_append,CMs_in,CMs_I,hset2,hfl]
   ·subst hk
    have hlen:lenS (d+1) (.mk 4 t ix v c bd el)=lenL d bd+2:=by simp [lenS,lenL]
    rw [hlen] at hLb hOb
    obtain ⟨q1,q2,q3⟩:=(CtL.head_parts hh).1 rfl
    subst q1
    have hc2:=emitI [9+(dep:Int),c] 1 (9+dep) c 0 0 [0,0] rfl (by simp) LL OO nn ((nn+1:Nat):Int) (by omega) (by omega)
    have hL2:(LL++[(⟨1,9+dep,c,0,0⟩:In)]).length=LL.length+1:=by rw [List.length_append];simp
    have hO2:(OO++[(nn:Int)]).length=OO.length+1:=by rw [List.length_append];simp
    have hc3:=hb bd (LL++[(⟨1,9+dep,c,0,0⟩:In)]) (OO++[(nn:Int)]) (nn+1) nn hbo (by omega) (by omega) (by omega) (by omega)
    have hbl:=CtL.cL_len (dep:=dep+1) (b:=LL.length+1) hbo
    have hob:=oL_len (n:=nn+1) hbo
    rw [hL2] at hc3
    rw [show LL++cS (d+1) dep LL.length (.mk 4 t ix v c bd [])=((LL++[(⟨1,9+dep,c,0,0⟩:In)])++cL d (dep+1) (LL.length+1) bd)++[⟨10,9+dep,((LL.length+1:Nat):Int),0,0⟩] by simp [cS,cL]] at hTi
    rw [show OO++oS (d+1) nn (.mk 4 t ix v c bd [])=((OO++[(nn:Int)])++oL d (nn+1) bd)++[(nn:Int)] by simp [oS,oL]] at hUi
    rw [show nn+(1+lsize d bd+lsize d [])=nn+1+lsize d bd by simp [lsize,Nat.add_assoc]] at hni
    have hL3:((LL++[(⟨1,9+dep,c,0,0⟩:In)])++cL d (dep+1) (LL.length+1) bd).length≤90000:=by rw [List.length_append];omega
    have hO3:((OO++[(nn:Int)])++oL d (nn+1) bd).length≤90000:=by rw [List.length_append];omega
    generalize (LL++[(⟨1,9+dep,c,0,0⟩:In)])++cL d (dep+1) (LL.length+1) bd=L3 at *
    generalize (OO++[(nn:Int)])++oL d (nn+1) bd=O3 at *
    generalize LL++[(⟨1,9+dep,c,0,0⟩:In)]=L2 at *
    generalize OO++[(nn:Int)]=O2 at *
    have hc4:=emitI [9+(dep:Int),((LL.length+1:Nat):Int)] 10 (9+dep) ((LL.length+1:Nat):Int) 0 0 [0,0] rfl (by simp) L3 O3 nn ((nn+1+lsize d bd:Nat):Int) (by omega) (by omega)
    obtain ⟨vk,vv,vks⟩:=v
    obtain ⟨ik,iv,iks⟩:=ix
    rw [show ((dep+1:Nat):Int)=(dep:Int)+1 by omega] at hc3
    refine drvL Tryz.func90 ?_
    simp only [go_sem,hx,hlt,renCs_in,renCs_I]
    iterate 9 ((try (refine drvZ Tryz.func90 ?_;simp only [go_sem,hx,hlt,renCs_in,renCs_I]));((with_reducible and_intros)<;>try exact sd))
    refine XK.callG [0,5,6,11072] (hc2) ok91 (hhpG (by simp [HH,upd,hOf,hpL,appUp,upsFrom,rkey,rk0,renCs_in,renCs_I,renCs,renC])) (hbT ()) (fun d h' ⟨_,e⟩=>by subst e;simp) ?_
    rintro _ _ ⟨rfl,rfl⟩ _
    iterate 8 ((try (refine drvZ Tryz.func90 ?_;simp only [go_sem,hx,hlt,renCs_in,renCs_I]));((with_reducible and_intros)<;>try exact sd))
    refine XK.callG [0,11136,11137] (hc3) ok90 (hhpG (by simp [HH,upd,hOf,hpL,appUp,upsFrom,rkey,rk0,renCs_in,renCs_I,renCs,renC])) (hbT ()) (fun d h' ⟨_,_,e⟩=>by subst e;simp) ?_
    rintro _ _ ⟨rfl,w1,rfl⟩ _
    iterate 8 ((try (refine drvZ Tryz.func90 ?_;simp only [go_sem,hx,hlt,renCs_in,renCs_I,hL2]));((with_reducible and_intros)<;>try exact sd))
    refine XK.callG [0,11904,11905,12480] (hc4) ok91 (hhpG (by simp [HH,upd,hOf,hpL,appUp,upsFrom,rkey,rk0,renCs_in,renCs_I,renCs,renC])) (hbT ()) (fun d h' ⟨_,e⟩=>by subst e;simp) ?_
    rintro _ _ ⟨rfl,rfl⟩ _
    iterate 8 ((try (refine drvZ Tryz.func90 ?_;simp only [go_sem,hx,hlt,renCs_in,renCs_I]));((with_reducible and_intros)<;>try exact sd))
    refine again (i+1,nn) (fun j=>if j=5 then some 12544 else if j=6 then some 12545 else some j) [] _ hlt (by simp only;omega) ?_
    simp only [hLz,hOz,hNZ,hTi,hUi,hni]
    simp only [go_sem,TmOK,DM,DMs,CM,CMs,forall_eq,exists_eq_left,Mq,HpOK,LowOK]
    simp [-List.map_append,CMs_in,CMs_I]
  ·have hn2:¬ i<l.length:=by omega
   obtain rfl:i=l.length:=by omega
   have hzz:tsum (tsize d) l l.length=lsize d l:=by simp [tsum,lsize]
   clear hT hU again hb
   simp only [List.take_length,hzz]
   generalize L++cL d dep L.length l=L1 at *
   generalize O++oL d n l=O1 at *
   refine drvL Tryz.func90 ?_
   simp only [go_sem,hn2]
   iterate 3 ((try (refine drvZ Tryz.func90 ?_;simp only [go_sem,hn2]));((with_reducible and_intros)<;>try exact sd))
   exact RetOb.emA (ow:=wi) (by rw [← hR];exact ⟨rfl,_,rfl⟩) rfl rfl rfl rfl rfl rfl rfl (by decide) (by decide) (by decide) (by simp [upd,hpL,hOf]) (by simp [upd,hpL,hOf])
 ·simp only [go_sem,TmOK,DM,DMs,CM,CMs,forall_eq,exists_eq_left,Mq,HpOK,LowOK]
  simp [cL,oL,seqS,seqO,tsum,CMs_in,CMs_I]
theorem ebAll (p : Pg) : ∀ (d dep : Nat), EbOK p d dep
 | 0,dep=>ebOf p 0 dep fun _ h=>by omega
 | d+1,dep=>ebOf p (d+1) dep fun d' h=>by
  obtain rfl:d=d':=by omega
  exact ebAll p d (dep+1)
open CtL (In Cd kE cL cS seqE seqS lenS lenL lastE compL compP halt)
def cpR (p:Pg) (r:D) (h:List (Option (List C))):Prop :=
 r = .tup [.c (.ptr 0 0),DB (decide ((lenL 5 p.body:Int)+1≤400))]∧h=EmH (compL p) (ownL p) (-1) (lsize 5 p.body:Nat)
theorem compiledI (p:Pg) (hv:p.vars.length≤2000000) (ha:p.arrays.length≤2000000) (hok:progOK p=true):DC Tryz.prog 32 [.agg p.cells] [] (cpR p):=by
 have hmx:=mx_eq
 have hpv:=programValidI p (by omega) (by omega)
 rw [hok] at hpv
 have hbo:=body_of hok
 have hll:=lenL_le hok
 have hlen:=CtL.compL_len hok
 have hol:=oL_len (n:=0) hbo.1
 have hcl:=CtL.cL_len (dep:=0) (b:=0) hbo.1
 have hcb:=ebAll p 5 0 p.body [] [] 0 0 hbo.1 (by omega) (by omega) (by simp;omega) (by simp;omega)
 unfold cpR
 rw [show compL p=cL 5 0 0 p.body++[halt] from rfl,show ownL p=oL 5 0 p.body++[-1] from rfl]
 rw [show compL p=cL 5 0 0 p.body++[halt] from rfl] at hlen
 simp only [List.nil_append,List.length_nil,Nat.zero_add,Int.natCast_zero] at hcb
 have had:=DC.nilLast (pre:=[.c (.ptr 0 0),DI .i64 13]) (sz:=1) (h:=EmH (cL 5 0 0 p.body) (oL 5 0 p.body) (-1) (lsize 5 p.body:Nat)) (emitI [] 13 0 0 0 0 [] rfl (by simp) (cL 5 0 0 p.body) (oL 5 0 p.body) (-1) (lsize 5 p.body:Nat) (by omega) (by omega))
 rw [show [(⟨13,0,0,0,0⟩:In)]=[halt] from rfl] at had
 simp only [List.cons_append,List.nil_append] at had
 generalize cL 5 0 0 p.body=B at *
 generalize oL 5 0 p.body=W at *
 generalize lenL 5 p.body=N at *
 generalize lsize 5 p.body=M at *
 have hBl:(B++[halt]).length=N+1:=hlen
 have hWl:(W++[(-1:Int)]).length≤100000:=by rw [List.length_append];simp;omega
 generalize B++[halt]=B1 at *
 generalize W++[(-1:Int)]=W1 at *
 generalize hRR:(fun (r:D) (h:List (Option (List C)))=>r = .tup [.c (.ptr 0 0),DB (decide ((N:Int)+1≤400))]∧h=EmH B1 W1 (-1) (M:Int))=R
 obtain ⟨vs,ar,bd⟩:=p
 refine dcZ Tryz.func32 ?_
 simp only [go_sem]
 iterate 5 ((try (refine drvZ Tryz.func32 ?_;simp only [go_sem]));((with_reducible and_intros)<;>try exact sd);(try first | refine XK.p hpv ok89 ?_ | refine XK.gp hpv ok89 ?_))
 refine XK.subQ (r := fun j => if j = 5 then none else if j = 6 then none else some j) (fz := []) (tl := [(2, .c (.v (.pointer none))), (3, DB false), (4, .c (.ptr 448 0)), (10, .c (.ptr 448 0)), (12, .c (.isl 11 (St1.cellsL bd)))])
  (hl:=[(448,some [.msl 5 5 0 0,.msl 6 1 0 0,I64 0,I64 0]),(5,some []),(6,some [])]) ?_ ?_
 ·simp only [go_sem,TmOK,DM,DMs,CM,CMs,forall_eq,exists_eq_left,Mq,HpOK,LowOK]
  simp
 refine XK.callG [448,5,6] hcb ok90 (hhpG (by simp [HH,upd,hOf,hpL,appUp,upsFrom,rkey,rk0,inC,renCs,renC])) (hbT ()) (fun d h' ⟨_,_,e⟩=>by subst e;simp) ?_
 rintro _ _ ⟨rfl,w,rfl⟩ _
 iterate 4 ((try (refine drvZ Tryz.func32 ?_;simp only [go_sem,renCs_in,renCs_I]));((with_reducible and_intros)<;>try exact sd))
 refine XK.callG [448,768,769] had ok91 (hhpG (by simp [HH,upd,hOf,hpL,appUp,upsFrom,rkey,rk0,renCs_in,renCs_I,renCs,renC])) (hbT ()) (fun d h' ⟨_,e⟩=>by subst e;simp) ?_
 rintro _ _ ⟨rfl,rfl⟩ _
 iterate 5 ((try (refine drvZ Tryz.func32 ?_;simp only [go_sem,renCs_in,renCs_I,hBl]));((with_reducible and_intros)<;>try exact sd))
 refine RetOb.ofQ (fun j=>if j=0 then some 448 else if j=1 then some 1153 else if j=2 then some 1154 else some j) [] (.tup [.c (.ptr 0 0),DB (decide ((N:Int)+1≤400))]) (EmH B1 W1 (-1) (M:Int)) ?_ (by rw [← hRR];exact ⟨rfl,rfl⟩) (by simp)
 simp [enumL,hOf,DM,DMs,CM,CMs,HpOK,LowOK,upd,appUp,upsFrom,rkey,wkey,hBl,CMs_I,CMs_in,renCs_in,renCs_I]
theorem compProgI (p:Pg) (hv:p.vars.length≤2000000) (ha:p.arrays.length≤2000000) (hok:progOK p=true):DC Tryz.prog 7 [.agg p.cells] [] (fun r h=>r = .tup [.agg (cdC (compP p).1),DB (compP p).2]∧h=[]):=by
 have hmx:=mx_eq
 have hpl0:=prog_len hok
 have hc:=compiledI p hv ha hok
 have hcv:=cloneI p.vars (by omega)
 have hca:=cloneI p.arrays (by omega)
 unfold cpR at hc
 generalize hR:(fun (r:D) (h:List (Option (List C)))=>r = .tup [.agg (cdC (compP p).1),DB (compP p).2]∧h=[])=R
 by_cases hl:lenL 5 p.body+1≤400
 ·rw [show compP p=(⟨p.vars,p.arrays,compL p⟩,true) from if_pos ⟨hok,hl⟩] at hR
  have hd:decide ((lenL 5 p.body:Int)+1≤400)=true:=by simp;omega
  rw [hd] at hc
  generalize compL p=B at *
  generalize ownL p=W at *
  generalize lsize 5 p.body=M at *
  obtain ⟨vs,ar,bd⟩:=p
  simp only [ints] at hcv hca
  simp only at hv ha
  have hgv:=flat_I vs
  have hga:=flat_I ar
  have e1:=in_len5 B
  have e2:=in_kf5 B
  refine dcZ Tryz.func7 ?_
  simp only [go_sem]
  iterate 2 ((try (refine drvZ Tryz.func7 ?_;simp only [go_sem]));((with_reducible and_intros)<;>try exact sd))
  refine XK.callG [] hc ok32 (fun i' x h=>by simp at h) (hbT ()) (fun d h' ⟨_,e⟩=>by subst e;simp) ?_
  rintro _ _ ⟨rfl,rfl⟩ _
  iterate 5 ((try (refine drvZ Tryz.func7 ?_;simp only [go_sem,renCs_in,renCs_I]));((with_reducible and_intros)<;>try exact sd))
  refine XK.callG [] hcv ok33 (fun i' x h=>by simp at h) (hbT ()) (fun d h' ⟨_,e⟩=>by subst e;simp) ?_ (fun _=>⟨by kernel_rfl,_,_,⟨rfl,rfl⟩,by simp⟩)
  rintro _ _ ⟨rfl,rfl⟩ _
  iterate 2 ((try (refine drvZ Tryz.func7 ?_;simp only [go_sem,renCs_I]));((with_reducible and_intros)<;>try exact sd))
  refine XK.callG [] hca ok33 (fun i' x h=>by simp at h) (hbT ()) (fun d h' ⟨_,e⟩=>by subst e;simp) ?_ (fun _=>⟨by kernel_rfl,_,_,⟨rfl,rfl⟩,by simp⟩)
  rintro _ _ ⟨rfl,rfl⟩ _
  iterate 5 ((try (refine drvZ Tryz.func7 ?_;simp only [go_sem,renCs_I]));((with_reducible and_intros)<;>try exact sd))
  refine RetOb.ofQ (fun j=>none) [896,1088,257] (.tup [.agg [.isl 1 (vs.map fun n=>[I64 n]),.isl 1 (ar.map fun n=>[I64 n]),.isl 5 (B.map inX)],DB true]) [] ?_ (by rw [← hR];exact ⟨rfl,rfl⟩) (by simp)
  simp [-List.mem_map,enumL,hOf,DM,DMs,CM,CMs,HpOK,LowOK,upd,hgv,hga,appUp,upsFrom,rkey,wkey,renCs_in,renCs_I,in_flat]
  exact ⟨⟨I_len1 _,I_kf1 _⟩,⟨I_len1 _,I_kf1 _⟩,e1,e2⟩
 ·rw [show compP p=(⟨[],[],[]⟩,false) from if_neg fun h=>hl h.2] at hR
  have hd:decide ((lenL 5 p.body:Int)+1≤400)=false:=by simp;omega
  rw [hd] at hc
  generalize compL p=B at *
  generalize ownL p=W at *
  generalize lsize 5 p.body=M at *
  obtain ⟨vs,ar,bd⟩:=p
  refine dcZ Tryz.func7 ?_
  simp only [go_sem]
  iterate 2 ((try (refine drvZ Tryz.func7 ?_;simp only [go_sem]));((with_reducible and_intros)<;>try exact sd))
  refine XK.callG [] hc ok32 (fun i' x h=>by simp at h) (hbT ()) (fun d h' ⟨_,e⟩=>by subst e;simp) ?_
  rintro _ _ ⟨rfl,rfl⟩ _
  iterate 5 ((try (refine drvZ Tryz.func7 ?_;simp only [go_sem]));((with_reducible and_intros)<;>try exact sd))
  exact RetOb.cd0 (by rw [← hR];exact ⟨rfl,rfl⟩)
open CtL (In Cd)
theorem equalIn (xs:List In) (hl:xs.length≤mx):DC Tryz.prog 46 [.c (.isl 5 (xs.map inX)),.c (.isl 5 (xs.map inX))] [] (fun r h=>r=DB true∧h=[]):=by
 have hmx:=mx_eq
 refine dcZ Tryz.func46 ?_
 simp only [go_sem,bne_self_eq_false]
 iterate 2 ((try (refine drvZ Tryz.func46 ?_;simp only [go_sem,bne_self_eq_false]));((with_reducible and_intros)<;>try exact sd))
 refine Go.loopQ (fun i:Nat=>[(0,.c (.isl 5 (xs.map inX))),(1,.c (.isl 5 (xs.map inX))),(12,DI .i64 xs.length),(13,DI .i64 i)]) (fun _=>[]) 1024 (fun i=>i≤xs.length) (fun i=>xs.length - i) ?_ 0 some [] _ (Nat.zero_le _) ?_
 ·intro i hi again
  rcases Nat.lt_or_ge i xs.length with hlt | hge
  ·obtain ⟨⟨op,a,b,c,d⟩,hx⟩:∃ x,xs[i]? = some x:=⟨xs[i],by simp [hlt]⟩
   refine drvL Tryz.func46 ?_
   simp only [go_sem,hx,hlt,inX]
   iterate 4 ((try (refine drvZ Tryz.func46 ?_;simp only [go_sem,hx,hlt,inX,bne_self_eq_false,beq_self_eq_true]));((with_reducible and_intros)<;>try exact sd))
   refine again (i+1) some [] _ hlt (by omega) ?_
   simp only [go_sem,TmOK,DM,DMs,CM,CMs,forall_eq,exists_eq_left,Mq,HpOK,LowOK]
   try simp
  ·have hn:¬ i<xs.length:=by omega
   refine drvL Tryz.func46 ?_
   simp only [go_sem,hn]
   iterate 3 ((try (refine drvZ Tryz.func46 ?_;simp only [go_sem,hn]));((with_reducible and_intros)<;>try exact sd))
   exact RetOb.plain (d:=DB true) ⟨rfl,rfl⟩ rfl
 ·simp only [go_sem,TmOK,DM,DMs,CM,CMs,forall_eq,exists_eq_left,Mq,HpOK,LowOK]
  try simp
theorem codeSame (c:Cd) (h1:c.vars.length≤mx) (h2:c.arrays.length≤mx) (h3:c.list.length≤mx):DC Tryz.prog 11 [.agg (cdC c),.agg (cdC c)] [] (fun r h=>r=DB true∧h=[]):=by
 have hmx:=mx_eq
 have e1:=equalI c.vars c.vars h1
 have e2:=equalI c.arrays c.arrays h2
 have e3:=equalIn c.list h3
 rw [decide_eq_true rfl] at e1 e2
 unfold cdC
 refine dcZ Tryz.func11 ?_
 simp only [go_sem]
 iterate 6 ((try (refine drvZ Tryz.func11 ?_;simp only [go_sem]));((with_reducible and_intros)<;>try exact sd);(try first | refine XK.p e1 ok45 ?_ | refine XK.gp e1 ok45 ?_ | refine XK.p e2 ok45 ?_ | refine XK.gp e2 ok45 ?_ | refine XK.p e3 ok46 ?_ | refine XK.gp e3 ok46 ?_))
 exact RetOb.plain (d:=DB true) ⟨rfl,rfl⟩ rfl
open CtL (In Cd kindsOf topOf fOK inOK endOK codeOK)
def ltr (k:Nat):UInt8:=if k=0 then 45 else if k=1 then 114 else if k=2 then 110 else if k=3 then 118 else if k=4 then 97 else if k=5 then 111 else 105
def shp (op:Int):ByteArray:=⟨#[ltr ((kindsOf op).getD 0 0),ltr ((kindsOf op).getD 1 0),ltr ((kindsOf op).getD 2 0),ltr ((kindsOf op).getD 3 0)]⟩
theorem shapeI (op:Int) (h:1≤op∧op≤13):DC Tryz.prog 136 [DI .i64 op] [] (fun r h=>r=DS (shp op)∧h=[]):=by
 have hmx:=mx_eq
 have hw:=CtR.within op 1 13
 have key:op=1∨op=2∨op=3∨op=4∨op=5∨op=6∨op=7∨op=8∨op=9∨op=10∨op=11∨op=12∨op=13:=by omega
 rcases key with rfl | rfl | rfl | rfl | rfl | rfl | rfl | rfl | rfl | rfl | rfl | rfl | rfl
 all_goals
  refine dcZ Tryz.func136 ?_
  simp only [go_sem]
  iterate 4 ((try (refine drvZ Tryz.func136 ?_;simp only [go_sem,Int.reduceLE,Int.reduceSub,Int.reduceToNat]));((with_reducible and_intros)<;>try exact sd);(try first | refine XK.p hw ok70 ?_ | refine XK.gp hw ok70 ?_))
  exact RetOb.plain (d:=DS _) ⟨rfl,rfl⟩ rfl
theorem fieldOkT (c : Cd) (h1 : c.vars.length ≤ mx) (h2 : c.arrays.length ≤ mx) (h3 : c.list.length ≤ mx) (k : Nat) (hk : k ≤ 6) (n : Int) (h : fOK c.vars.length c.arrays.length c.list.length k n = true) :
 DC Tryz.prog 138 [.agg (cdC c),.c (.v (.int .u8 (ltr k).toNat)),DI .i64 n] [] (fun r h=>r=DB true∧h=[]):=by
 have hmx:=mx_eq
 have hw:=fun hi=>CtR.within n 0 hi
 have hw4:=CtR.within n 4 10
 obtain ⟨vs,ar,ls⟩:=c
 simp only at h1 h2 h3 h
 simp only [fOK,topOf,Bool.and_eq_true,decide_eq_true_eq] at h
 have key:k=0∨k=1∨k=2∨k=3∨k=4∨k=5∨k=6:=by omega
 unfold cdC
 rcases key with rfl | rfl | rfl | rfl | rfl | rfl | rfl
 ·rw [show (((ltr 0).toNat:Nat):Int)=45 from rfl]
  obtain rfl:n=0:=by simp at h;omega
  refine dcZ Tryz.func138 ?_
  simp only [go_sem]
  iterate 9 ((try (refine drvZ Tryz.func138 ?_;simp only [go_sem]));((with_reducible and_intros)<;>try exact sd))
  exact RetOb.plain (d:=DB true) ⟨rfl,rfl⟩ rfl
 ·rw [show (((ltr 1).toNat:Nat):Int)=114 from rfl]
  have g1:decide (0≤n)=true:=by simp at h ⊢;omega
  have g2:decide (n≤13)=true:=by simp at h ⊢;omega
  have hw:=hw (13)
  rw [g1,g2] at hw
  refine dcZ Tryz.func138 ?_
  simp only [go_sem]
  iterate 10 ((try (refine drvZ Tryz.func138 ?_;simp only [go_sem,Int.reduceLE,List.length_map]));((with_reducible and_intros)<;>try exact sd);(try first | refine XK.p hw ok70 ?_ | refine XK.gp hw ok70 ?_))
  exact RetOb.plain (d:=DB true) ⟨rfl,rfl⟩ rfl
 ·rw [show (((ltr 2).toNat:Nat):Int)=110 from rfl]
  have g1:decide (0≤n)=true:=by simp at h ⊢;omega
  have g2:decide (n≤255)=true:=by simp at h ⊢;omega
  have hw:=hw (255)
  rw [g1,g2] at hw
  refine dcZ Tryz.func138 ?_
  simp only [go_sem]
  iterate 10 ((try (refine drvZ Tryz.func138 ?_;simp only [go_sem,Int.reduceLE,List.length_map]));((with_reducible and_intros)<;>try exact sd);(try first | refine XK.p hw ok70 ?_ | refine XK.gp hw ok70 ?_))
  exact RetOb.plain (d:=DB true) ⟨rfl,rfl⟩ rfl
 ·rw [show (((ltr 3).toNat:Nat):Int)=118 from rfl]
  have g1:decide (0≤n)=true:=by simp at h ⊢;omega
  have g2:decide (n≤(vs.length:Int) - 1)=true:=by simp at h ⊢;omega
  have hw:=hw ((vs.length:Int) - 1)
  rw [g1,g2] at hw
  refine dcZ Tryz.func138 ?_
  simp only [go_sem]
  iterate 10 ((try (refine drvZ Tryz.func138 ?_;simp only [go_sem,Int.reduceLE,List.length_map]));((with_reducible and_intros)<;>try exact sd);(try first | refine XK.p hw ok70 ?_ | refine XK.gp hw ok70 ?_))
  exact RetOb.plain (d:=DB true) ⟨rfl,rfl⟩ rfl
 ·rw [show (((ltr 4).toNat:Nat):Int)=97 from rfl]
  have g1:decide (0≤n)=true:=by simp at h ⊢;omega
  have g2:decide (n≤(ar.length:Int) - 1)=true:=by simp at h ⊢;omega
  have hw:=hw ((ar.length:Int) - 1)
  rw [g1,g2] at hw
  refine dcZ Tryz.func138 ?_
  simp only [go_sem]
  iterate 10 ((try (refine drvZ Tryz.func138 ?_;simp only [go_sem,Int.reduceLE,List.length_map]));((with_reducible and_intros)<;>try exact sd);(try first | refine XK.p hw ok70 ?_ | refine XK.gp hw ok70 ?_))
  exact RetOb.plain (d:=DB true) ⟨rfl,rfl⟩ rfl
 ·rw [show (((ltr 5).toNat:Nat):Int)=111 from rfl]
  have g1:decide (4≤n)=true:=by simp at h ⊢;omega
  have g2:decide (n≤10)=true:=by simp at h ⊢;omega
  rw [g1,g2] at hw4
  refine dcZ Tryz.func138 ?_
  simp only [go_sem]
  iterate 10 ((try (refine drvZ Tryz.func138 ?_;simp only [go_sem,Int.reduceLE,List.length_map]));((with_reducible and_intros)<;>try exact sd);(try first | refine XK.p hw4 ok70 ?_ | refine XK.gp hw4 ok70 ?_))
  exact RetOb.plain (d:=DB true) ⟨rfl,rfl⟩ rfl
 ·rw [show (((ltr 6).toNat:Nat):Int)=105 from rfl]
  have g1:decide (0≤n)=true:=by simp at h ⊢;omega
  have g2:decide (n≤(ls.length:Int) - 1)=true:=by simp at h ⊢;omega
  have hw:=hw ((ls.length:Int) - 1)
  rw [g1,g2] at hw
  refine dcZ Tryz.func138 ?_
  simp only [go_sem]
  iterate 10 ((try (refine drvZ Tryz.func138 ?_;simp only [go_sem,Int.reduceLE,List.length_map]));((with_reducible and_intros)<;>try exact sd);(try first | refine XK.p hw ok70 ?_ | refine XK.gp hw ok70 ?_))
  exact RetOb.plain (d:=DB true) ⟨rfl,rfl⟩ rfl
theorem fieldsI (x:In):DC Tryz.prog 137 [.agg (inX x)] [] (fun r h=>r = .c (isI [x.a,x.b,x.c,x.d])∧h=[]):=by
 have hmx:=mx_eq
 obtain ⟨op,a,b,c,d⟩:=x
 unfold inX
 refine dcZ Tryz.func137 ?_
 simp only [go_sem]
 iterate 3 ((try (refine drvZ Tryz.func137 ?_;simp only [go_sem]));((with_reducible and_intros)<;>try exact sd))
 refine RetOb.ofQ (fun _=>none) [640] (.c (isI [a,b,c,d])) [] ?_ ⟨rfl,rfl⟩ (by simp)
 simp [enumL,hOf,DM,CM,CMs,HpOK,LowOK,upd,kf,isI]
theorem kinds_le (op:Int) (i:Nat):(kindsOf op).getD i 0≤6:=by
 have:∀ l:List Nat,(∀ x ∈ l,x≤6)→l.getD i 0≤6:=fun l h=>by
  rw [List.getD_eq_getElem?_getD]
  cases hx:l[i]? with
  | none=>simp
  | some x=>simpa using h x (List.mem_of_getElem? hx)
 apply this
 unfold kindsOf
 repeat' split
 all_goals simp
theorem shp_at (op:Int) (i:Nat) (h:i<4):(shp op).data.toList.getD i 0=ltr ((kindsOf op).getD i 0):=by
 have:i=0∨i=1∨i=2∨i=3:=by omega
 rcases this with rfl | rfl | rfl | rfl<;>rfl
theorem toList_nil:ByteArray.toList { data:=#[] }=[]:=by
 unfold ByteArray.toList
 unfold ByteArray.toList.loop
 rfl
theorem loop_len (bs : ByteArray) : ∀ (n i : Nat) (r : List UInt8), bs.size - i = n → (ByteArray.toList.loop bs i r).length = r.length + n
 | 0,i,r,h=>by
  unfold ByteArray.toList.loop
  rw [if_neg (by omega)];simp
 | n+1,i,r,h=>by
  unfold ByteArray.toList.loop
  rw [if_pos (by omega),loop_len bs n (i+1) _ (by omega)]
  simp only [List.length_cons];omega
theorem shp_ne (op:Int) (h:1≤op∧op≤13):((shp op).toList == (ByteArray.toList { data:=#[] }))=false:=by
 rw [toList_nil,beq_eq_false_iff_ne]
 intro he
 have:=loop_len (shp op) 4 0 [] rfl
 unfold ByteArray.toList at he
 rw [he] at this
 simp at this
theorem instrOkT (c : Cd) (h1 : c.vars.length ≤ mx) (h2 : c.arrays.length ≤ mx) (h3 : c.list.length ≤ mx) (x : In) (h : inOK c.vars.length c.arrays.length c.list.length x = true) :
 DC Tryz.prog 96 [.agg (cdC c),.agg (inX x)] [] (fun r h=>r=DB true∧h=[]):=by
 have hmx:=mx_eq
 have hf:=fun k hk n hn=>fieldOkT c h1 h2 h3 k hk n hn
 have hfi:=fieldsI x
 obtain ⟨op,a,b,c',d⟩:=x
 simp only [inOK,Bool.and_eq_true,decide_eq_true_eq] at h
 obtain ⟨⟨⟨⟨⟨o1,o2⟩,q0⟩,q1⟩,q2⟩,q3⟩:=h
 have hsh:=shapeI op ⟨o1,o2⟩
 have hq:∀ i:Nat,i<4→fOK c.vars.length c.arrays.length c.list.length ((kindsOf op).getD i 0) ([a,b,c',d].getD i 0)=true:=fun i hi=>by
  have:i=0∨i=1∨i=2∨i=3:=by omega
  rcases this with rfl | rfl | rfl | rfl<;>assumption
 have hsz:(shp op).size=4:=rfl
 have hse:((shp op).toList == (ByteArray.toList { data:=#[] }))=false:=shp_ne op ⟨o1,o2⟩
 unfold cdC at hf ⊢
 unfold inX at hfi
 unfold inX
 refine dcZ Tryz.func96 ?_
 simp only [go_sem]
 iterate 5 ((try (refine drvZ Tryz.func96 ?_;simp only [go_sem]));((with_reducible and_intros)<;>try exact sd);(try first | refine XK.p hsh ok136 ?_ | refine XK.gp hsh ok136 ?_ | refine XK.p hfi ok137 ?_ | refine XK.gp hfi ok137 ?_))
 refine Go.loopQ (fun i : Nat => [(2, .c (.ptr 0 0)), (5, DS (shp op)), (12, .c (.isl 1 [[I64 a], [I64 b], [I64 c'], [I64 d]])), (13, DI .i64 4), (14, DI .i64 i)]) (fun _ => [(0, some [isI c.vars, isI c.arrays, .isl 5 (c.list.map inX)])])
  4096 (fun i=>i≤4) (fun i=>4 - i) ?_ 0 some [] _ (by omega) ?_
 ·intro i hi again
  rcases Nat.lt_or_ge i 4 with hlt | hge
  ·have hx:[[I64 a],[I64 b],[I64 c'],[I64 d]][i]? = some [I64 ([a,b,c',d].getD i 0)]:=by
    have:i=0∨i=1∨i=2∨i=3:=by omega
    rcases this with rfl | rfl | rfl | rfl<;>rfl
   have hc:=hf _ (kinds_le op i) _ (hq i hlt)
   have hat:=shp_at op i hlt
   have hlt':(i:Int)<4:=by omega
   generalize [a,b,c',d].getD i 0=n at *
   generalize (kindsOf op).getD i 0=k at *
   generalize [[I64 a],[I64 b],[I64 c'],[I64 d]]=fl at *
   generalize shp op=sp at *
   refine drvL Tryz.func96 ?_
   simp only [go_sem,hlt']
   iterate 5 ((try (refine drvZ Tryz.func96 ?_;simp only [go_sem,hx,hlt',hat,hsz,hse]));((with_reducible and_intros)<;>try exact sd);(try first | refine XK.p hc ok138 ?_ | refine XK.gp hc ok138 ?_))
   refine again (i+1) some [] _ (by omega) (by omega) ?_
   simp only [go_sem,TmOK,DM,DMs,CM,CMs,forall_eq,exists_eq_left,Mq,HpOK,LowOK]
   try simp
  ·obtain rfl:i=4:=by omega
   have h44:(((4:Nat):Int)<4)=False:=eq_false (by decide)
   refine drvL Tryz.func96 ?_
   simp only [go_sem,h44]
   iterate 3 ((try (refine drvZ Tryz.func96 ?_;simp only [go_sem,h44]));((with_reducible and_intros)<;>try exact sd))
   exact RetOb.plain (d:=DB true) ⟨rfl,rfl⟩ rfl
 ·simp only [go_sem,TmOK,DM,DMs,CM,CMs,forall_eq,exists_eq_left,Mq,HpOK,LowOK]
  simp
  exact fun a _=>rfl
end Go.Proofs.YtbknljofedfpjaaGreat.CtD
