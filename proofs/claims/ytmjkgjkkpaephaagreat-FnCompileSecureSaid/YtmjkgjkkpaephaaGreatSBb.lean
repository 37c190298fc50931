/- Contracts of functions of the program, one behind the other, as plain data: what each call returns and which blocks it leaves. -/
import Derived.Test.YtmjkgjkkpaephaaGreatSFacts
import Derived.Test.YtmjkgjkkpaephaaGreatSAi
import Derived.Test.YtmjkgjkkpaephaaGreatSAj
import Derived.Test.YtmjkgjkkpaephaaGreatSAk
import Derived.Test.YtmjkgjkkpaephaaGreatSAl
import Derived.Test.YtmjkgjkkpaephaaGreatSAm
import Derived.Test.YtmjkgjkkpaephaaGreatSAo
import Derived.Test.YtmjkgjkkpaephaaGreatSAp
import Derived.Test.YtmjkgjkkpaephaaGreatSAq
import Derived.Test.YtmjkgjkkpaephaaGreatSAt
import Derived.Test.YtmjkgjkkpaephaaGreatSAu
import Derived.Test.YtmjkgjkkpaephaaGreatSAv
import Derived.Test.YtmjkgjkkpaephaaGreatSAw
import Derived.Test.YtmjkgjkkpaephaaGreatSAx
import Derived.Test.YtmjkgjkkpaephaaGreatSAy
import Derived.Test.YtmjkgjkkpaephaaGreatSAz
import Derived.Test.YtmjkgjkkpaephaaGreatSBa
import Derived.Test.YtmjkgjkkpaephaaGreatSAn
import Derived.Test.YtmjkgjkkpaephaaGreatSAs
set_option linter.unusedVariables false
set_option linter.unusedSimpArgs false
set_option maxHeartbeats 16000000
set_option maxRecDepth 100000
namespace Go.Proofs.YtmjkgjkkpaephaaGreat.CtD
open Go Go.CT CtF CtR
open CtL (e0 cE vE rdE bE selE hitE asg sto maskE readN readS stoN stoS linK lab1 linE linB linO maskS linI linS linQ linP)
def BlkI (p:Pg) (d:Nat):Prop:=∀ (mk:Int) (pc:Nat) (vs:List Int) (l:List St1),pc≤3→(∀ s ∈ l,stmtOK p d s=true)→p.vars.length≤vs.length→lab3 vs→vs.length+17 * lsize d l≤1000000→70 * lsize d l≤1000000 →
 DC Tryz.prog 61 [.c (.ptr 0 0), .c (.isl 11 (St1.cellsL l)), DI .i64 mk, DI .i64 pc] [some [.msl 1 1 0 vs.length, isI p.arrays, .v (.slice none 0 0)], some (vs.map I64)]
  (fun r h=>r = .c (.isl 11 (St1.cellsL (linB (linS p.arrays d mk pc) vs l).2))∧h=[some [.msl 2 1 0 (linB (linS p.arrays d mk pc) vs l).1.length,isI p.arrays,.v (.slice none 0 0)],none,some ((linB (linS p.arrays d mk pc) vs l).1.map I64)])
def StmI (p:Pg) (d:Nat):Prop:=∀ (mk:Int) (pc:Nat) (vs:List Int) (out:List St1) (s:St1),pc≤3→stmtOK p d s=true→p.vars.length≤vs.length→lab3 vs→vs.length+17 * tsize d s≤1000000→out.length+70 * tsize d s≤1000000 →
 DC Tryz.prog 98 [.c (.ptr 0 0), .agg s.cells, DI .i64 mk, DI .i64 pc, .c (.ptr 2 0)] (LnH p.arrays vs out)
  (fun r h=>r = .tup []∧h=LnR p.arrays (linS p.arrays d mk pc vs s).1 (out++(linS p.arrays d mk pc vs s).2))
theorem blockI1 {p:Pg} (hla:p.arrays.length≤1048576) (h2:lab3 p.arrays) (d:Nat) (hS:StmI p d):BlkI p d:=by
 have hmx:=mx_eq
 intro mk pc vs l hp hok hl h1 hb1 hb2
 have hT:∀ i x,l[i]? = some x→linB (linS p.arrays d mk pc) vs (l.take (i+1))=((linS p.arrays d mk pc (linB (linS p.arrays d mk pc) vs (l.take i)).1 x).1,(linB (linS p.arrays d mk pc) vs (l.take i)).2++(linS p.arrays d mk pc (linB (linS p.arrays d mk pc) vs (l.take i)).1 x).2):=fun i x hx=>by
  rw [List.take_add_one,hx];exact linB_snoc _ _ _
 have hTs:∀ i,(linB (linS p.arrays d mk pc) vs (l.take i)).1.length≤vs.length+17 * tsum (tsize d) l i∧(linB (linS p.arrays d mk pc) vs (l.take i)).2.length≤70 * tsum (tsize d) l i:=fun i=>by
  have h:=linB_sz2 (p:=p) d mk pc (l.take i) vs (fun s hs=>hok s (List.mem_of_mem_take hs)) hl
  have h4:=len_le_lsize1 (linB (linS p.arrays d mk pc) vs (l.take i)).2
  have h5:=h.2 1
  exact ⟨h.1,by unfold tsum;unfold lsize at h5 h4;omega⟩
 have hT3:∀ i,lab3 (linB (linS p.arrays d mk pc) vs (l.take i)).1:=fun i=>linB_lab3 (fun vs s h=>linS_lab3 h2 d mk pc vs s hp h) _ _ h1
 have hTm:∀ i,p.vars.length≤(linB (linS p.arrays d mk pc) vs (l.take i)).1.length:=fun i =>
  Nat.le_trans hl (CtL.more_le (CtL.lin_more (p:=p) d mk pc vs _ (fun s hs=>hok s (List.mem_of_mem_take hs)) hl))
 have hsum:=fun i=>tsum_le (tsize d) l i
 have hlz:lsize d l=(l.map (tsize d)).sum:=rfl
 have hll:l.length≤1000000:=by
  have:∀ s ∈ l,1≤tsize d s:=fun s hs=>by
   cases d with
   | zero=>have:=hok s hs;simp [stmtOK] at this
   | succ d=>exact tsize_pos s
  have:=len_le_sum (tsize d) l this
  omega
 generalize hR:(fun (r:D) (h:List (Option (List C)))=>r = .c (.isl 11 (St1.cellsL (linB (linS p.arrays d mk pc) vs l).2))∧h=[some [.msl 2 1 0 (linB (linS p.arrays d mk pc) vs l).1.length,isI p.arrays,.v (.slice none 0 0)],none,some ((linB (linS p.arrays d mk pc) vs l).1.map I64)])=R
 have hS:=fun vs out s=>hS mk pc vs out s hp
 generalize hpa:p.arrays=ar at *
 refine dcZ Tryz.func61 ?_
 simp only [go_sem]
 iterate 2 ((try (refine drvZ Tryz.func61 ?_;simp only [go_sem]));((with_reducible and_intros)<;>try exact sd))
 refine Go.loopQ (fun i : Nat => [(0, .c (.ptr 0 0)), (2, DI .i64 mk), (3, DI .i64 pc), (9, .c (.ptr 66 0)), (12, .c (.isl 11 (St1.cellsL l))), (13, DI .i64 l.length), (14, DI .i64 i)])
  (fun i=>[(0,some [.msl 2 1 0 (linB (linS ar d mk pc) vs (l.take i)).1.length,isI ar,.v (.slice none 0 0)]),(1,none),(2,some ((linB (linS ar d mk pc) vs (l.take i)).1.map I64)),(3,some (stC (linB (linS ar d mk pc) vs (l.take i)).2)),(66,some [.msl 3 11 0 (linB (linS ar d mk pc) vs (l.take i)).2.length])])
  8192 (fun i=>i≤l.length) (fun i=>l.length - i) ?_ 0 (fun j=>if j=2 then some 1 else if j=3 then none else some j) [] _ (Nat.zero_le _) ?_
 ·intro i hi again
  rcases Nat.lt_or_ge i l.length with hlt | hge
  ·obtain ⟨⟨k,t,⟨ik,iv,iks⟩,⟨vk,vv,vks⟩,c,b,e⟩,hx⟩:∃ x,l[i]? = some x:=⟨l[i],by simp [hlt]⟩
   have hso:=hok _ (List.mem_of_getElem? hx)
   have hTi:=hT i _ hx
   have hsz:=hTs i
   have hsu:=hsum (i+1)
   rw [tsum_succ (tsize d) l i _ hx] at hsu
   have hl3i:=hT3 i
   have hlm:=hTm i
   clear hT hTs hT3 hTm hsum
   generalize linB (linS ar d mk pc) vs (l.take i)=T at *
   obtain ⟨vi,oi⟩:=T
   simp only at hTi hsz hl3i hlm
   have hs:=hS vi oi _ hso hlm hl3i (by omega) (by omega)
   simp only [LnH,LnR] at hs
   refine drvL Tryz.func61 ?_
   simp only [go_sem,hx,hlt]
   iterate 3 ((try (refine drvZ Tryz.func61 ?_;simp only [go_sem,hx,hlt]));((with_reducible and_intros)<;>try exact sd))
   refine XK.callG [0,2,66,3] hs ok98 (hhpG (by simp [HH,upd,hpL,renCs_stC,renCs_I,renCs,renC,rk0,isI])) (hbT ()) (fun d h' ⟨_,e⟩=>by subst e;simp) ?_
   rintro _ _ ⟨rfl,rfl⟩ _
   iterate 3 ((try (refine drvZ Tryz.func61 ?_;simp only [go_sem,renCs_stC,renCs_I]));((with_reducible and_intros)<;>try exact sd))
   refine again (i+1) (fun j=>if j=2 then some 8768 else if j=3 then some 8769 else some j) [] _ hlt (by omega) ?_
   rw [hTi]
   simp only [go_sem,TmOK,DM,DMs,CM,CMs,forall_eq,exists_eq_left,Mq,HpOK,LowOK]
   simp [CMs_I]
   exact CMs.kf (stC_kf _)
  ·have hn:¬ i<l.length:=by omega
   obtain rfl:i=l.length:=by omega
   clear again hT hTs hT3 hTm
   simp only [List.take_length]
   generalize linB (linS ar d mk pc) vs l=T at *
   obtain ⟨vi,oi⟩:=T
   refine drvL Tryz.func61 ?_
   simp only [go_sem,hn]
   iterate 3 ((try (refine drvZ Tryz.func61 ?_;simp only [go_sem,hn]));((with_reducible and_intros)<;>try exact sd))
   refine RetOb.ofQ some [3] (.c (.isl 11 (St1.cellsL oi))) [some [.msl 2 1 0 vi.length,isI ar,.v (.slice none 0 0)],none,some (vi.map I64)] ?_ (by rw [← hR];exact ⟨rfl,rfl⟩) (by simp)
   have g1:(St1.cellsL oi).flatten=stC oi:=by rw [St1.cellsL_eq];rfl
   have g2:∀ x ∈ St1.cellsL oi,x.length=11:=fun x hx=>by rw [St1.cellsL_eq] at hx;obtain ⟨e,_,rfl⟩:=List.mem_map.1 hx;exact St1.cells_len e
   have g3:∀ x ∈ St1.cellsL oi,∀ c ∈ x,kf c=true:=fun x hx=>by rw [St1.cellsL_eq] at hx;obtain ⟨e,_,rfl⟩:=List.mem_map.1 hx;exact st_kf e
   simp [enumL,hOf,DM,CM,CMs,HpOK,LowOK,upd,isI,CMs_I,g1,St1.cellsL_length]
   exact ⟨g2,g3⟩
 ·simp only [go_sem,TmOK,DM,DMs,CM,CMs,forall_eq,exists_eq_left,Mq,HpOK,LowOK]
  simp [linB,stC,CMs_I]
theorem stC_app (a b:List St1):stC (a++b)=stC a++stC b:=by simp [stC]
theorem RetOb.lnT {R : D → List (Option (List C)) → Prop} {V ar : List Int} {out : List St1} {hp : Hp} {ka kb n1 n2 : Nat} {cs : List C} (hR : R (.tup []) (LnR ar V out))
 (h0:hp 0=some (some [.msl ka 1 0 n1,isI ar,.v (.slice none 0 0)])) (h2:hp 2=some (some [.msl kb 11 0 n2])) (ha:hp ka=some (some (V.map I64))) (hb:hp kb=some (some cs)) (hc:∀ hT r fz,CMs hT r hp fz (stC out) cs)
 (e1:n1=V.length) (e2:n2=out.length) (na:1≤ka) (nb:1≤kb) (na2:ka ≠ 2) (nb2:kb ≠ 2) (nab:ka ≠ kb):RetOb 4 R (.tup []) hp :=
 RetOb.lnA hR h0 h2 ha hb hc e1 e2 na nb na2 nb2 nab (fun _ _=>by simp [DM,DMs])
theorem stmtI1 {p:Pg} (hla:p.arrays.length≤1048576) (h2:lab3 p.arrays) (d:Nat) (ih:BlkI p d):StmI p (d+1):=by
 have hmx:=mx_eq
 intro mk pc vs out s hp hso hl h1 hb1 hb2
 obtain ⟨k,t,⟨ik,iv,iks⟩,⟨vk,vv,vks⟩,c,b,e⟩:=s
 obtain ⟨hh,hbo,heo⟩:=stmtOK_succ hso
 have hts:tsize (d+1) (.mk k t (.mk ik iv iks) (.mk vk vv vks) c b e)=1+lsize d b+lsize d e:=by simp [tsize,lsize]
 rw [hts] at hb1 hb2
 have hcl:=stC_len out
 have hlen:out.length≤1000000:=by omega
 generalize hR:(fun (r:D) (h:List (Option (List C)))=>r = .tup []∧h=LnR p.arrays (linS p.arrays (d+1) mk pc vs (.mk k t (.mk ik iv iks) (.mk vk vv vks) c b e)).1 (out++(linS p.arrays (d+1) mk pc vs (.mk k t (.mk ik iv iks) (.mk vk vv vks) c b e)).2))=R
 unfold LnH
 obtain ⟨pv,ar,pb⟩:=p
 have hla:ar.length≤1048576:=hla
 have h2:lab3 ar:=h2
 have hl:pv.length≤vs.length:=hl
 simp only at hR ⊢
 rcases head_kind hh with ⟨hk,_,_,hrv⟩ | ⟨hk,_,_,hri,hat,hrv⟩ | ⟨hk,hrv⟩ | ⟨hk,_⟩
 ·have hsv:=CtL.shape_mono (p:=⟨pv,ar,pb⟩) (q:=⟨vs,ar,[]⟩) hl rfl 5 _ (right_shape hrv).1
  have hcnt:=(right_shape hrv).2
  have hlab:=labelIO vs ar (by omega) (by omega) h1 h2 5 _ hsv
  have hex:=exprI ar pc hp h2 hla 5 _ vs out hsv h1 (by omega) (by omega)
  have hEs:=CtL.linE_sz (ar:=ar) (pc:=pc) 5 vs (.mk vk vv vks)
  have hls1:k=1→linS ar (d+1) mk pc vs (.mk k t (.mk ik iv iks) (.mk vk vv vks) c b e)=((linE ar pc 5 vs (.mk vk vv vks)).1,(linE ar pc 5 vs (.mk vk vv vks)).2.1++[asg t (maskE mk (linE ar pc 5 vs (.mk vk vv vks)).2.2 (vE t))]):=fun hk=>by
   subst hk;rw [CtL.linS_o (by decide) (by decide),CtL.linO_1]
  have hls5:k=5→linS ar (d+1) mk pc vs (.mk k t (.mk ik iv iks) (.mk vk vv vks) c b e)=((linE ar pc 5 vs (.mk vk vv vks)).1,(linE ar pc 5 vs (.mk vk vv vks)).2.1++[.mk 5 t e0 (linE ar pc 5 vs (.mk vk vv vks)).2.2 0 [] []]):=fun hk=>by
   subst hk;rw [CtL.linS_o (by decide) (by decide),CtL.linO_5]
  simp only [LnH,LnR] at hex
  generalize labN vs ar 5 (.mk vk vv vks)=lv at *
  generalize linE ar pc 5 vs (.mk vk vv vks)=E at *
  obtain ⟨vj,oj,xe⟩:=E
  simp only at hex hEs hls1 hls5
  have hcl2:=stC_len (out++oj)
  have hlen2:(out++oj).length≤1000000:=by rw [List.length_append];omega
  rcases hk with hk | hk
  ·rw [hls1 hk] at hR
   simp only [← List.append_assoc] at hR
   generalize hO:out++oj=o2 at *
   obtain ⟨hp0,hpk⟩:=putL hcl2
   have cv:=varI t
   have hm:=maskedI mk xe (vE t)
   have ha:=assignI t (maskE mk xe (vE t))
   obtain ⟨xk,xv,xks⟩:=xe
   generalize hM:maskE mk (.mk xk xv xks) (vE t)=M at *
   obtain ⟨mk',mv',mks'⟩:=M
   simp only [vE,asg,e0,St1.cells,St1.cellsL,Ex.cells,Ex.cellsL,List.cons_append,List.nil_append,List.length_cons,List.length_nil] at cv hm ha
   clear hls1 hls5
   subst hk
   refine dcZ Tryz.func98 ?_
   simp only [go_sem]
   iterate 4 ((try (refine drvZ Tryz.func98 ?_;simp only [go_sem]));((with_reducible and_intros)<;>try exact sd))
   refine XK.callG [1] hlab ok91 (hhpG (by simp [HH,upd,hpL,renCs_stC,renCs_I,renCs,renC,rk0,isI])) (hbT ()) (fun d h' ⟨_,e⟩=>by subst e;simp) ?_ (fun _=>⟨by kernel_rfl,_,_,⟨rfl,rfl⟩,by simp⟩)
   rintro _ _ ⟨rfl,rfl⟩ _
   iterate 3 ((try (refine drvZ Tryz.func98 ?_;simp only [go_sem,renCs_I]));((with_reducible and_intros)<;>try exact sd))
   refine XK.callG [0,1,2,3] hex ok149 (hhpG (by simp [HH,upd,hpL,renCs_stC,renCs_I,renCs,renC,rk0,isI])) (hbT ()) (fun d h' ⟨_,e⟩=>by subst e;simp) ?_
   rintro _ _ ⟨rfl,rfl⟩ _
   iterate 7 ((try (refine drvZ Tryz.func98 ?_;simp only [go_sem,renCs_I,renCs_stC,hcl2,List.length_append,hp0,hpk,Nat.add_assoc]));((with_reducible and_intros)<;>try exact sd);(try first | refine XK.p cv ok152 ?_ | refine XK.gp cv ok152 ?_ | refine XK.p hm ok151 ?_ | refine XK.gp hm ok151 ?_ | refine XK.p ha ok150 ?_ | refine XK.gp ha ok150 ?_))
   exact RetOb.lnT (R:=R) (V:=vj) (out:=o2++[asg t (.mk mk' mv' mks')]) (by rw [← hR];exact ⟨rfl,rfl⟩) rfl rfl rfl rfl (fun _ _ _=>by rw [stC_snoc];exact CMs.app (CMs.kf (stC_kf _)) (by simp [CMs,CM,asg,sto,e0,selE,hitE,bE,rdE,cE,vE,St1.cells,St1.cellsL,Ex.cells,Ex.cellsL])) rfl (by simp) (by decide) (by decide) (by decide) (by decide) (by decide)
  ·rw [hls5 hk] at hR
   simp only [← List.append_assoc] at hR
   generalize hO:out++oj=o2 at *
   obtain ⟨hp0,hpk⟩:=putL hcl2
   obtain ⟨xk,xv,xks⟩:=xe
   clear hls1 hls5
   subst hk
   refine dcZ Tryz.func98 ?_
   simp only [go_sem]
   iterate 4 ((try (refine drvZ Tryz.func98 ?_;simp only [go_sem]));((with_reducible and_intros)<;>try exact sd))
   refine XK.callG [1] hlab ok91 (hhpG (by simp [HH,upd,hpL,renCs_stC,renCs_I,renCs,renC,rk0,isI])) (hbT ()) (fun d h' ⟨_,e⟩=>by subst e;simp) ?_ (fun _=>⟨by kernel_rfl,_,_,⟨rfl,rfl⟩,by simp⟩)
   rintro _ _ ⟨rfl,rfl⟩ _
   iterate 3 ((try (refine drvZ Tryz.func98 ?_;simp only [go_sem,renCs_I]));((with_reducible and_intros)<;>try exact sd))
   refine XK.callG [0,1,2,3] hex ok149 (hhpG (by simp [HH,upd,hpL,renCs_stC,renCs_I,renCs,renC,rk0,isI])) (hbT ()) (fun d h' ⟨_,e⟩=>by subst e;simp) ?_
   rintro _ _ ⟨rfl,rfl⟩ _
   iterate 7 ((try (refine drvZ Tryz.func98 ?_;simp only [go_sem,renCs_I,renCs_stC,hcl2,List.length_append,hp0,hpk,Nat.add_assoc]));((with_reducible and_intros)<;>try exact sd))
   exact RetOb.lnT (R:=R) (V:=vj) (out:=o2++[.mk 5 t e0 (.mk xk xv xks) 0 [] []]) (by rw [← hR];exact ⟨rfl,rfl⟩) rfl rfl rfl rfl (fun _ _ _=>by rw [stC_snoc];exact CMs.app (CMs.kf (stC_kf _)) (by simp [CMs,CM,asg,sto,e0,selE,hitE,bE,rdE,cE,vE,St1.cells,St1.cellsL,Ex.cells,Ex.cellsL])) rfl (by simp) (by decide) (by decide) (by decide) (by decide) (by decide)
 ·have hsv:=CtL.shape_mono (p:=⟨pv,ar,pb⟩) (q:=⟨vs,ar,[]⟩) hl rfl 5 _ (right_shape hrv).1
  have hsi:=CtL.shape_mono (p:=⟨pv,ar,pb⟩) (q:=⟨vs,ar,[]⟩) hl rfl 5 _ (right_shape hri).1
  have hcnt:=(right_shape hrv).2
  have hlab:=labelIO vs ar (by omega) (by omega) h1 h2 5 _ hsv
  have hex:=exprI ar pc hp h2 hla 5 _ vs out hsv h1 (by omega) (by omega)
  have hEs:=CtL.linE_sz (ar:=ar) (pc:=pc) 5 vs (.mk vk vv vks)
  have hls:linS ar (d+1) mk pc vs (.mk k t (.mk ik iv iks) (.mk vk vv vks) c b e)=linO ar mk pc (linE ar pc 5 vs (.mk vk vv vks)) 2 t (.mk ik iv iks):=by
   subst hk;rw [CtL.linS_o (by decide) (by decide)]
  rw [hls,CtL.linO_2] at hR
  clear hls
  have hEo:=CtL.linE_ok (ar:=ar) (q:=⟨[],ar,[]⟩) rfl pc 5 vs _ hsv
  have hEl:=linE_lab3 hp h2 5 vs (.mk vk vv vks) h1
  have hEm:=CtL.more_le hEo.more
  have hEsh:=hEo.shp
  have hsi2:=CtL.shape_mono (p:=⟨vs,ar,[]⟩) (q:=⟨(linE ar pc 5 vs (.mk vk vv vks)).1,ar,[]⟩) hEm rfl 5 _ hsi
  clear hEo
  simp only [LnH,LnR] at hex
  generalize labN vs ar 5 (.mk vk vv vks)=lv at *
  generalize linE ar pc 5 vs (.mk vk vv vks)=E at *
  obtain ⟨vj,oj,xe⟩:=E
  simp only at hex hEs hR hEl hEm hEsh hsi2
  have hlab2:=labelIO vj ar (by omega) (by omega) hEl h2 5 _ hsi2
  have hle:=labN_le hEl h2 5 (.mk ik iv iks)
  have hse:=labelSecretI (labN vj ar 5 (.mk ik iv iks)) hle
  have hcl2:=stC_len (out++oj)
  have hlen2:(out++oj).length+10≤1000000:=by rw [List.length_append];omega
  subst hk
  cases hsec:secL (labN vj ar 5 (.mk ik iv iks)) with
  | true =>
   rw [hsec] at hse
   rw [hsec,if_pos rfl] at hR
   simp only [← List.append_assoc] at hR
   generalize hO:out++oj=o2 at *
   obtain ⟨hp0,hpk⟩:=putL hcl2
   have hlab3:=labelIO vj ar (by omega) (by omega) hEl h2 5 xe hEsh
   have hle3:=labN_le hEl h2 5 xe
   have hor:=or3 hle3 hp
   have hfr:=freshI vj ar ((labN vj ar 5 xe ||| pc:Nat):Int) (by omega)
   generalize labN vj ar 5 (.mk ik iv iks)=li at *
   unfold lab1 at hR
   generalize labN vj ar 5 xe=lx at *
   have ha:=assignI vj.length xe
   obtain ⟨xk,xv,xks⟩:=xe
   simp only [vE,asg,e0,St1.cells,St1.cellsL,Ex.cells,Ex.cellsL,List.cons_append,List.nil_append,List.length_cons,List.length_nil] at ha
   refine dcZ Tryz.func98 ?_
   simp only [go_sem]
   iterate 4 ((try (refine drvZ Tryz.func98 ?_;simp only [go_sem]));((with_reducible and_intros)<;>try exact sd))
   refine XK.callG [1] hlab ok91 (hhpG (by simp [HH,upd,hpL,renCs_stC,renCs_I,renCs,renC,rk0,isI])) (hbT ()) (fun d h' ⟨_,e⟩=>by subst e;simp) ?_ (fun _=>⟨by kernel_rfl,_,_,⟨rfl,rfl⟩,by simp⟩)
   rintro _ _ ⟨rfl,rfl⟩ _
   iterate 3 ((try (refine drvZ Tryz.func98 ?_;simp only [go_sem,renCs_I]));((with_reducible and_intros)<;>try exact sd))
   refine XK.callG [0,1,2,3] hex ok149 (hhpG (by simp [HH,upd,hpL,renCs_stC,renCs_I,renCs,renC,rk0,isI])) (hbT ()) (fun d h' ⟨_,e⟩=>by subst e;simp) ?_
   rintro _ _ ⟨rfl,rfl⟩ _
   iterate 4 ((try (refine drvZ Tryz.func98 ?_;simp only [go_sem,renCs_I,renCs_stC]));((with_reducible and_intros)<;>try exact sd))
   refine XK.callG [1092] hlab2 ok91 (hhpG (by simp [HH,upd,hpL,renCs_stC,renCs_I,renCs,renC,rk0,isI])) (hbT ()) (fun d h' ⟨_,e⟩=>by subst e;simp) ?_ (fun _=>⟨by kernel_rfl,_,_,⟨rfl,rfl⟩,by simp⟩)
   rintro _ _ ⟨rfl,rfl⟩ _
   iterate 4 ((try (refine drvZ Tryz.func98 ?_;simp only [go_sem,renCs_I]));((with_reducible and_intros)<;>try exact sd);(try first | refine XK.p hse ok90 ?_ | refine XK.gp hse ok90 ?_))
   iterate 3 ((try (refine drvZ Tryz.func98 ?_;simp only [go_sem,renCs_I,renCs_stC]));((with_reducible and_intros)<;>try exact sd))
   refine XK.callG [1092] hlab3 ok91 (hhpG (by simp [HH,upd,hpL,renCs_stC,renCs_I,renCs,renC,rk0,isI])) (hbT ()) (fun d h' ⟨_,e⟩=>by subst e;simp) ?_ (fun _=>⟨by kernel_rfl,_,_,⟨rfl,rfl⟩,by simp⟩)
   rintro _ _ ⟨rfl,rfl⟩ _
   iterate 3 ((try (refine drvZ Tryz.func98 ?_;simp only [go_sem,renCs_I]));((with_reducible and_intros)<;>try exact sd))
   refine XK.callG [0,1092] hfr ok154 (hhpG (by simp [HH,upd,hpL,renCs_stC,renCs_I,renCs,renC,rk0,isI])) (hbT ()) (fun d h' ⟨_,e⟩=>by subst e;simp) ?_ (fun _=>⟨by kernel_rfl,_,_,⟨rfl,rfl⟩,by simp⟩)
   rintro _ _ ⟨rfl,rfl⟩ _
   iterate 6 ((try (refine drvZ Tryz.func98 ?_;simp only [go_sem,renCs_I,hcl2,List.length_append,hp0,hpk,Nat.add_assoc]));((with_reducible and_intros)<;>try exact sd);(try first | refine XK.p ha ok150 ?_ | refine XK.gp ha ok150 ?_))
   have hN:∀ k:Nat,stoN mk vj.length t (.mk ik iv iks) k = .mk 2 t (.mk 1 k []) (.mk 11 0 [maskE mk (hitE (.mk ik iv iks) k) (cE 0),vE vj.length,rdE t (cE k)]) 0 [] []:=fun k=>rfl
   have hst:=fun k (hk:k<4)=>show (stoS mk vj.length t (.mk ik iv iks)).take (k+1)=(stoS mk vj.length t (.mk ik iv iks)).take k++[stoN mk vj.length t (.mk ik iv iks) k] by
    have:k=0∨k=1∨k=2∨k=3:=by omega
    rcases this with rfl | rfl | rfl | rfl<;>rfl
   have hrl:(stoS mk vj.length t (.mk ik iv iks)).length=4:=rfl
   have c0:=constI 0
   have cvw:=varI vj.length
   have c1:=fun k:Nat=>constI (k:Int)
   have hr1:=fun k:Nat=>elementI t (cE (k:Int))
   have hh1:=fun k:Nat=>isAtI (.mk ik iv iks) (k:Int)
   have hm1:=fun k:Nat=>maskedI mk (hitE (.mk ik iv iks) k) (cE 0)
   have hn1:=fun k:Nat=>chooseI (maskE mk (hitE (.mk ik iv iks) k) (cE 0)) (vE vj.length) (rdE t (cE k))
   generalize hM:maskE mk=M at *
   have hM2:∀ k:Nat,∃ k' v' s',M (hitE (.mk ik iv iks) k) (cE 0) = .mk k' v' s':=fun k=>by
    cases M (hitE (.mk ik iv iks) k) (cE 0) with | mk k' v' s'=>exact ⟨k',v',s',rfl⟩
   simp only [cE,vE,rdE,hitE,bE,Ex.cells,Ex.cellsL,List.cons_append,List.nil_append,List.length_cons,List.length_nil] at c0 cvw c1 hr1 hh1
   refine Go.loopQ (fun k : Nat => [(2, DI .i64 mk), (4, .c (.ptr 2 0)), (6, .c (.ptr 4 0)), (12, DI .i64 vj.length), (139, DI .i64 k)])
    (fun k=>[(0,some [.msl 5 1 0 (vj.length+1),isI ar,.v (.slice none 0 0)]),(1,none),(2,some [.msl 6 11 0 (o2++[asg vj.length (.mk xk xv xks)]++(stoS mk vj.length t (.mk ik iv iks)).take k).length]),(3,none),(4,some (St1.cells (.mk 2 t (.mk ik iv iks) (.mk vk vv vks) c b e))),(5,some ((vj++[((lx ||| pc:Nat):Int)]).map I64)),(6,some (stC (o2++[asg vj.length (.mk xk xv xks)]++(stoS mk vj.length t (.mk ik iv iks)).take k)))])
    8192 (fun k=>k≤4) (fun k=>4 - k) ?_ 0 (fun j=>if j=5 then some 2948 else if j=6 then some 3588 else some j) [] _ (by omega) ?_
   ·intro k hk4 again
    rcases Nat.lt_or_ge k 4 with hlt | hge
    ·have hz:((k:Int)<4)=True:=eq_true (by omega)
     have hst:=hst k hlt
     have htl:((stoS mk vj.length t (.mk ik iv iks)).take k).length=k:=by rw [List.length_take,hrl];omega
     have hcl2:=stC_len (o2++[asg vj.length (.mk xk xv xks)]++(stoS mk vj.length t (.mk ik iv iks)).take k)
     have hlen2:(o2++[asg vj.length (.mk xk xv xks)]++(stoS mk vj.length t (.mk ik iv iks)).take k).length=o2.length+1+k:=by rw [List.length_append,List.length_append,htl];rfl
     have hh1:=hh1 k
     have hn1:=hn1 k
     have hr1:=hr1 k
     have c1:=c1 k
     have hm1:=hm1 k
     have hN:=hN k
     obtain ⟨mk',mv',ms',hME⟩:=hM2 k
     rw [hME] at hm1 hn1 hN
     simp only [cE,vE,rdE,hitE,bE,selE,Ex.cells,Ex.cellsL,List.cons_append,List.nil_append,List.length_cons,List.length_nil] at hm1 hn1
     generalize hO2:o2++[asg vj.length (.mk xk xv xks)]++(stoS mk vj.length t (.mk ik iv iks)).take k=o3 at *
     obtain ⟨hp0,hpk⟩:=putL hcl2
     refine drvL Tryz.func98 ?_
     simp only [go_sem,hz]
     iterate 12 ((try (refine drvZ Tryz.func98 ?_;simp only [go_sem,hz,hcl2,List.length_append,hp0,hpk,Nat.add_assoc]));((with_reducible and_intros)<;>try exact sd);(try first | refine XK.p hh1 ok155 ?_ | refine XK.gp hh1 ok155 ?_ | refine XK.p c0 ok156 ?_ | refine XK.gp c0 ok156 ?_ | refine XK.p hm1 ok151 ?_ | refine XK.gp hm1 ok151 ?_ | refine XK.p c1 ok156 ?_ | refine XK.gp c1 ok156 ?_ | refine XK.p hr1 ok153 ?_ | refine XK.gp hr1 ok153 ?_ | refine XK.p cvw ok152 ?_ | refine XK.gp cvw ok152 ?_ | refine XK.p hn1 ok157 ?_ | refine XK.gp hn1 ok157 ?_))
     refine again (k+1) (fun j=>if j=6 then some 10176 else some j) [] _ (by omega) (by omega) ?_
     rw [hst,← List.append_assoc,hO2,hN]
     simp only [go_sem,TmOK,DM,DMs,CM,CMs,forall_eq,exists_eq_left,Mq,HpOK,LowOK,stC_snoc,List.length_append]
     simp [-List.map_append,asg,sto,e0,selE,hitE,bE,rdE,cE,vE,St1.cells,St1.cellsL,Ex.cells,Ex.cellsL,CMs_I]
     exact CMs.app (CMs.kf (stC_kf _)) (by simp [CMs,CM,asg,sto,e0,selE,hitE,bE,rdE,cE,vE,St1.cells,St1.cellsL,Ex.cells,Ex.cellsL])
    ·obtain rfl:k=4:=by omega
     have htl:(stoS mk vj.length t (.mk ik iv iks)).take 4=(stoS mk vj.length t (.mk ik iv iks)):=rfl
     rw [htl]
     refine drvL Tryz.func98 ?_
     simp only [go_sem]
     iterate 4 ((try (refine drvZ Tryz.func98 ?_;simp only [go_sem]));((with_reducible and_intros)<;>try exact sd))
     exact RetOb.lnT (R:=R) (V:=vj++[((lx ||| pc:Nat):Int)]) (out:=o2++[asg vj.length (.mk xk xv xks)]++(stoS mk vj.length t (.mk ik iv iks))) (by rw [← hR];exact ⟨rfl,by simp⟩) rfl rfl rfl rfl (fun _ _ _=>CMs.kf (stC_kf _)) (by simp) rfl (by decide) (by decide) (by decide) (by decide) (by decide)
   ·simp only [go_sem,TmOK,DM,DMs,CM,CMs,forall_eq,exists_eq_left,Mq,HpOK,LowOK]
    simp [-List.map_append,stC_snoc,asg,sto,e0,selE,hitE,bE,rdE,cE,vE,St1.cells,St1.cellsL,Ex.cells,Ex.cellsL,CMs_I]
    exact CMs.app (CMs.kf (stC_kf _)) (by simp [CMs,CM,asg,sto,e0,selE,hitE,bE,rdE,cE,vE,St1.cells,St1.cellsL,Ex.cells,Ex.cellsL])
  | false =>
   rw [hsec] at hse
   rw [hsec,if_neg (by simp)] at hR
   simp only [← List.append_assoc] at hR
   generalize hO:out++oj=o2 at *
   obtain ⟨hp0,hpk⟩:=putL hcl2
   have hrd:=elementI t (.mk ik iv iks)
   have hm:=maskedI mk xe (rdE t (.mk ik iv iks))
   generalize labN vj ar 5 (.mk ik iv iks)=li at *
   obtain ⟨xk,xv,xks⟩:=xe
   generalize hM:maskE mk (.mk xk xv xks) (rdE t (.mk ik iv iks))=M at *
   obtain ⟨mk',mv',mks'⟩:=M
   simp only [rdE,Ex.cells,Ex.cellsL,List.cons_append,List.nil_append,List.length_cons,List.length_nil] at hrd hm
   refine dcZ Tryz.func98 ?_
   simp only [go_sem]
   iterate 4 ((try (refine drvZ Tryz.func98 ?_;simp only [go_sem]));((with_reducible and_intros)<;>try exact sd))
   refine XK.callG [1] hlab ok91 (hhpG (by simp [HH,upd,hpL,renCs_stC,renCs_I,renCs,renC,rk0,isI])) (hbT ()) (fun d h' ⟨_,e⟩=>by subst e;simp) ?_ (fun _=>⟨by kernel_rfl,_,_,⟨rfl,rfl⟩,by simp⟩)
   rintro _ _ ⟨rfl,rfl⟩ _
   iterate 3 ((try (refine drvZ Tryz.func98 ?_;simp only [go_sem,renCs_I]));((with_reducible and_intros)<;>try exact sd))
   refine XK.callG [0,1,2,3] hex ok149 (hhpG (by simp [HH,upd,hpL,renCs_stC,renCs_I,renCs,renC,rk0,isI])) (hbT ()) (fun d h' ⟨_,e⟩=>by subst e;simp) ?_
   rintro _ _ ⟨rfl,rfl⟩ _
   iterate 4 ((try (refine drvZ Tryz.func98 ?_;simp only [go_sem,renCs_I,renCs_stC]));((with_reducible and_intros)<;>try exact sd))
   refine XK.callG [1092] hlab2 ok91 (hhpG (by simp [HH,upd,hpL,renCs_stC,renCs_I,renCs,renC,rk0,isI])) (hbT ()) (fun d h' ⟨_,e⟩=>by subst e;simp) ?_ (fun _=>⟨by kernel_rfl,_,_,⟨rfl,rfl⟩,by simp⟩)
   rintro _ _ ⟨rfl,rfl⟩ _
   iterate 4 ((try (refine drvZ Tryz.func98 ?_;simp only [go_sem,renCs_I]));((with_reducible and_intros)<;>try exact sd);(try first | refine XK.p hse ok90 ?_ | refine XK.gp hse ok90 ?_))
   iterate 6 ((try (refine drvZ Tryz.func98 ?_;simp only [go_sem,renCs_I,renCs_stC,hcl2,List.length_append,hp0,hpk,Nat.add_assoc]));((with_reducible and_intros)<;>try exact sd);(try first | refine XK.p hrd ok153 ?_ | refine XK.gp hrd ok153 ?_ | refine XK.p hm ok151 ?_ | refine XK.gp hm ok151 ?_))
   exact RetOb.lnT (R:=R) (V:=vj) (out:=o2++[sto t (.mk ik iv iks) (.mk mk' mv' mks')]) (by rw [← hR];exact ⟨rfl,rfl⟩) rfl rfl rfl rfl (fun _ _ _=>by rw [stC_snoc];exact CMs.app (CMs.kf (stC_kf _)) (by simp [CMs,CM,asg,sto,e0,selE,hitE,bE,rdE,cE,vE,St1.cells,St1.cellsL,Ex.cells,Ex.cellsL])) rfl (by simp) (by decide) (by decide) (by decide) (by decide) (by decide)
 ·have hsv:=CtL.shape_mono (p:=⟨pv,ar,pb⟩) (q:=⟨vs,ar,[]⟩) hl rfl 5 _ (right_shape hrv).1
  have hcnt:=(right_shape hrv).2
  have hlab:=labelIO vs ar (by omega) (by omega) h1 h2 5 _ hsv
  have hle:=labN_le h1 h2 5 (.mk vk vv vks)
  have hse:=labelSecretI (labN vs ar 5 (.mk vk vv vks)) hle
  have hor:=or3 hp hle
  have hex:=exprI ar pc hp h2 hla 5 _ vs out hsv h1 (by omega) (by omega)
  have hEl:=linE_lab3 hp h2 5 vs (.mk vk vv vks) h1
  have hEz:=CtL.linE_sz (ar:=ar) (pc:=pc) 5 vs (.mk vk vv vks)
  have hEm:=CtL.more_le (CtL.linE_ok (q:=⟨[],ar,[]⟩) rfl pc 5 vs _ hsv).more
  have hSz:∀ mk pc (vs:List Int) (l:List St1),(∀ s ∈ l,stmtOK ⟨pv,ar,pb⟩ d s=true)→pv.length≤vs.length→vs.length≤(linB (linS ar d mk pc) vs l).1.length:=fun mk pc vs l hok hl=>CtL.more_le (CtL.lin_more (p:=⟨pv,ar,pb⟩) d mk pc vs l hok hl)
  have hls:=CtL.linS_3 (ar:=ar) (d:=d) (mk:=mk) (pc:=pc) (vs:=vs) (t:=t) (ix := .mk ik iv iks) (v := .mk vk vv vks) (c:=c) (b:=b) (e:=e)
  subst hk
  rw [hls] at hR
  clear hls
  simp only [LnH,LnR] at hex
  generalize labN vs ar 5 (.mk vk vv vks)=l at *
  generalize linE ar pc 5 vs (.mk vk vv vks)=E at *
  obtain ⟨vi,oi,xe⟩:=E
  simp only at hex hEl hEz hEm
  unfold linI at hR
  dsimp only at hR
  have hcl2:=stC_len (out++oi)
  have hlen2:(out++oi).length+10≤1000000:=by rw [List.length_append];omega
  cases hsec:secL l with
  | false =>
   rw [hsec] at hse
   rw [hsec,if_neg (by simp)] at hR
   have hI1:=ih mk (pc ||| l) vi b hor hbo (by show pv.length≤_;omega) hEl (by omega) (by omega)
   have hs1:=hSz mk (pc ||| l) vi b hbo (by omega)
   have hl1:=linB_lab3 (fun vs s h=>linS_lab3 h2 d mk (pc ||| l) vs s hor h) b vi hEl
   have hz1:=(linB_sz2 (p:=⟨pv,ar,pb⟩) d mk (pc ||| l) b vi hbo (by show pv.length≤_;omega)).1
   simp only at hI1 hz1
   generalize linB (linS ar d mk (pc ||| l)) vi b=B1 at *
   obtain ⟨vj,oj⟩:=B1
   simp only at hI1 hs1 hl1 hz1 hR
   have hI2:=ih mk (pc ||| l) vj e hor heo (by show pv.length≤_;omega) hl1 (by omega) (by omega)
   simp only at hI2
   generalize linB (linS ar d mk (pc ||| l)) vj e=B2 at *
   obtain ⟨vk',ok'⟩:=B2
   simp only at hI2 hR
   simp only [← List.append_assoc] at hR
   generalize hO:out++oi=o2 at *
   obtain ⟨hp0,hpk⟩:=putL hcl2
   obtain ⟨xk,xv,xks⟩:=xe
   refine dcZ Tryz.func98 ?_
   simp only [go_sem]
   iterate 4 ((try (refine drvZ Tryz.func98 ?_;simp only [go_sem]));((with_reducible and_intros)<;>try exact sd))
   refine XK.callG [1] hlab ok91 (hhpG (by simp [HH,upd,hpL,renCs_stC,renCs_I,renCs,renC,rk0,isI])) (hbT ()) (fun d h' ⟨_,e⟩=>by subst e;simp) ?_ (fun _=>⟨by kernel_rfl,_,_,⟨rfl,rfl⟩,by simp⟩)
   rintro _ _ ⟨rfl,rfl⟩ _
   iterate 3 ((try (refine drvZ Tryz.func98 ?_;simp only [go_sem,renCs_I]));((with_reducible and_intros)<;>try exact sd))
   refine XK.callG [0,1,2,3] hex ok149 (hhpG (by simp [HH,upd,hpL,renCs_stC,renCs_I,renCs,renC,rk0,isI])) (hbT ()) (fun d h' ⟨_,e⟩=>by subst e;simp) ?_
   rintro _ _ ⟨rfl,rfl⟩ _
   iterate 7 ((try (refine drvZ Tryz.func98 ?_;simp only [go_sem,renCs_I,renCs_stC]));((with_reducible and_intros)<;>try exact sd);(try first | refine XK.p hse ok90 ?_ | refine XK.gp hse ok90 ?_))
   refine XK.callG [0,1092] hI1 ok61 (hhpG (by simp [HH,upd,hpL,renCs_stC,renCs_I,renCs,renC,rk0,isI])) (hbT ()) (fun d h' ⟨_,e⟩=>by subst e;simp) ?_
   rintro _ _ ⟨rfl,rfl⟩ _
   iterate 4 ((try (refine drvZ Tryz.func98 ?_;simp only [go_sem,renCs_I,renCs_stC]));((with_reducible and_intros)<;>try exact sd))
   refine XK.callG [0,2564] hI2 ok61 (hhpG (by simp [HH,upd,hpL,renCs_stC,renCs_I,renCs,renC,rk0,isI])) (hbT ()) (fun d h' ⟨_,e⟩=>by subst e;simp) ?_ (fun _=>⟨by kernel_rfl,_,_,⟨rfl,rfl⟩,by simp⟩)
   rintro _ _ ⟨rfl,rfl⟩ _
   iterate 5 ((try (refine drvZ Tryz.func98 ?_;simp only [go_sem,renCs_I,renCs_stC,hcl2,List.length_append,hp0,hpk,Nat.add_assoc]));((with_reducible and_intros)<;>try exact sd))
   exact RetOb.lnT (R:=R) (V:=vk') (out:=o2++[.mk 3 0 e0 (.mk xk xv xks) 0 oj ok']) (by rw [← hR];exact ⟨rfl,rfl⟩) rfl rfl rfl rfl (fun _ _ _=>by rw [stC_snoc];exact CMs.app (CMs.kf (stC_kf _)) (by simp [CMs,CM,asg,sto,e0,selE,hitE,bE,rdE,cE,vE,St1.cells,St1.cellsL,Ex.cells,Ex.cellsL])) rfl (by simp) (by decide) (by decide) (by decide) (by decide) (by decide)
  | true =>
   rw [hsec] at hse
   rw [hsec,if_pos rfl] at hR
   have hoc:l ||| pc=pc ||| l:=Nat.or_comm l pc
   have hl2:(vi++lab1 pc l++lab1 pc l).length=vi.length+2:=by simp [lab1]
   have hlv:=lab3_app (lab3_app hEl (lab3_lab1 hp hle)) (lab3_lab1 hp hle)
   have hfr1:=freshI vi ar ((pc ||| l:Nat):Int) (by omega)
   have hfr2:=freshI (vi++lab1 pc l) ar ((pc ||| l:Nat):Int) (by simp [lab1];omega)
   have c0:=constI 0
   have cv:=varI vi.length
   have hm1:=maskedI mk xe (cE 0)
   have ha1:=assignI vi.length (maskE mk xe (cE 0))
   have hn:=pairI 9 (vE vi.length) (cE 0)
   have hm2:=maskedI mk (bE 9 (vE vi.length) (cE 0)) (cE 0)
   have ha2:=assignI ((vi.length+1:Nat):Int) (maskE mk (bE 9 (vE vi.length) (cE 0)) (cE 0))
   have hB1:=ih vi.length (pc ||| l) (vi++lab1 pc l++lab1 pc l) b hor hbo (by show pv.length≤_;omega) hlv (by omega) (by omega)
   have hs1:=hSz vi.length (pc ||| l) (vi++lab1 pc l++lab1 pc l) b hbo (by omega)
   have hl1:=linB_lab3 (fun vs s h=>linS_lab3 h2 d vi.length (pc ||| l) vs s hor h) b (vi++lab1 pc l++lab1 pc l) hlv
   have hz1:=linB_sz2 (p:=⟨pv,ar,pb⟩) d vi.length (pc ||| l) b (vi++lab1 pc l++lab1 pc l) hbo (by show pv.length≤_;omega)
   simp only at hB1 hz1
   have hz2:=len_le_lsize1 (linB (linS ar d vi.length (pc ||| l)) (vi++lab1 pc l++lab1 pc l) b).2
   have hz3:=hz1.2 1
   have hz1:=hz1.1
   generalize linB (linS ar d vi.length (pc ||| l)) (vi++lab1 pc l++lab1 pc l) b=B1 at *
   obtain ⟨vj,oj⟩:=B1
   simp only at hB1 hs1 hl1 hz1 hz2 hz3 hR
   have hB2:=ih ((vi.length+1:Nat):Int) (pc ||| l) vj e hor heo (by show pv.length≤_;omega) hl1 (by omega) (by omega)
   have hy1:=linB_sz2 (p:=⟨pv,ar,pb⟩) d ((vi.length+1:Nat):Int) (pc ||| l) e vj heo (by show pv.length≤_;omega)
   simp only at hB2 hy1
   have hy2:=len_le_lsize1 (linB (linS ar d ((vi.length+1:Nat):Int) (pc ||| l)) vj e).2
   have hy3:=hy1.2 1
   generalize linB (linS ar d ((vi.length+1:Nat):Int) (pc ||| l)) vj e=B2 at *
   obtain ⟨vk',ok'⟩:=B2
   simp only at hB2 hR hy2 hy3
   clear hy1
   have hln9:(out++oi).length+2+oj.length+ok'.length≤1000000:=by rw [List.length_append];omega
   simp only [← List.append_assoc] at hR
   generalize hO:out++oi=o2 at *
   obtain ⟨hp0,hpk⟩:=putL hcl2
   obtain ⟨xk,xv,xks⟩:=xe
   unfold maskS at hR
   generalize hM1:maskE mk (.mk xk xv xks) (cE 0)=M1 at *
   generalize hM2:maskE mk (bE 9 (vE vi.length) (cE 0)) (cE 0)=M2 at *
   obtain ⟨m1k,m1v,m1s⟩:=M1
   obtain ⟨m2k,m2v,m2s⟩:=M2
   have hln:(vi++lab1 pc l).length=vi.length+1:=by simp [lab1]
   rw [hl2] at hB1
   rw [hln] at hfr2
   have hcl3:=stC_len (o2++[asg vi.length (.mk m1k m1v m1s)])
   have hln3:(o2++[asg vi.length (.mk m1k m1v m1s)]).length=o2.length+1:=by simp
   obtain ⟨hq0,hqk⟩:=putL hcl3
   have hcl4:=stC_len (o2++[asg vi.length (.mk m1k m1v m1s)]++[asg ((vi.length+1:Nat):Int) (.mk m2k m2v m2s)])
   have hclj:=stC_len oj
   have hclk:=stC_len ok'
   have hfj:(St1.cellsL oj).flatten=stC oj:=by rw [St1.cellsL_eq];rfl
   have hfk:(St1.cellsL ok').flatten=stC ok':=by rw [St1.cellsL_eq];rfl
   simp only [cE,vE,bE,lab1,asg,e0,St1.cells,St1.cellsL,Ex.cells,Ex.cellsL,List.cons_append,List.nil_append,List.length_cons,List.length_nil] at c0 cv hm1 hm2 hn hfr1 hfr2 ha1 ha2 hB1
   refine dcZ Tryz.func98 ?_
   simp only [go_sem]
   iterate 4 ((try (refine drvZ Tryz.func98 ?_;simp only [go_sem]));((with_reducible and_intros)<;>try exact sd))
   refine XK.callG [1] hlab ok91 (hhpG (by simp [HH,upd,hpL,renCs_stC,renCs_I,renCs,renC,rk0,isI])) (hbT ()) (fun d h' ⟨_,e⟩=>by subst e;simp) ?_ (fun _=>⟨by kernel_rfl,_,_,⟨rfl,rfl⟩,by simp⟩)
   rintro _ _ ⟨rfl,rfl⟩ _
   iterate 3 ((try (refine drvZ Tryz.func98 ?_;simp only [go_sem,renCs_I]));((with_reducible and_intros)<;>try exact sd))
   refine XK.callG [0,1,2,3] hex ok149 (hhpG (by simp [HH,upd,hpL,renCs_stC,renCs_I,renCs,renC,rk0,isI])) (hbT ()) (fun d h' ⟨_,e⟩=>by subst e;simp) ?_
   rintro _ _ ⟨rfl,rfl⟩ _
   iterate 7 ((try (refine drvZ Tryz.func98 ?_;simp only [go_sem,renCs_I,renCs_stC,hoc]));((with_reducible and_intros)<;>try exact sd);(try first | refine XK.p hse ok90 ?_ | refine XK.gp hse ok90 ?_))
   refine XK.callG [0,1092] hfr1 ok154 (hhpG (by simp [HH,upd,hpL,renCs_stC,renCs_I,renCs,renC,rk0,isI])) (hbT ()) (fun d h' ⟨_,e⟩=>by subst e;simp) ?_
   rintro _ _ ⟨rfl,rfl⟩ _
   iterate 8 ((try (refine drvZ Tryz.func98 ?_;simp only [go_sem,renCs_I,renCs_stC,hoc,hcl2,List.length_append,hp0,hpk,Nat.add_assoc]));((with_reducible and_intros)<;>try exact sd);(try first | refine XK.p c0 ok156 ?_ | refine XK.gp c0 ok156 ?_ | refine XK.p hm1 ok151 ?_ | refine XK.gp hm1 ok151 ?_ | refine XK.p ha1 ok150 ?_ | refine XK.gp ha1 ok150 ?_))
   refine XK.subQ (r := fun j => if j = 5 then some 2372 else if j = 6 then some 3204 else some j) (fz := []) (tl := [(0, .c (.ptr 0 0)), (2, DI .i64 mk), (3, DI .i64 pc), (4, .c (.ptr 2 0)), (6, .c (.ptr 4 0)), (10, DI .i64 l), (11, .c (.ptr 1156 0)), (16, DI .i64 vi.length), (223, .c (.ptr 0 0)), (226, DI .i64 ((pc ||| l : Nat) : Int))])
    (hl:=[(0,some [.msl 5 1 0 (vi.length+1),isI ar,.v (.slice none 0 0)]),(1,none),(2,some [.msl 6 11 0 (o2++[asg vi.length (.mk m1k m1v m1s)]).length]),(3,none),(4,some (St1.cells (.mk 3 t (.mk ik iv iks) (.mk vk vv vks) c b e))),(5,some ((vi++[((pc ||| l:Nat):Int)]).map I64)),(6,some (stC (o2++[asg vi.length (.mk m1k m1v m1s)]))),(1156,some [I64 xk,I64 xv,.isl 3 (Ex.cellsL xks)])]) ?_ ?_
   ·simp only [go_sem,TmOK,DM,DMs,CM,CMs,forall_eq,exists_eq_left,Mq,HpOK,LowOK]
    simp [-List.map_append,stC_snoc,asg,sto,e0,selE,hitE,bE,rdE,cE,vE,St1.cells,St1.cellsL,Ex.cells,Ex.cellsL,CMs_I]
    exact CMs.app (CMs.kf (stC_kf _)) (by simp [CMs,CM,asg,sto,e0,selE,hitE,bE,rdE,cE,vE,St1.cells,St1.cellsL,Ex.cells,Ex.cellsL])
   generalize hO3:o2++[asg vi.length (.mk m1k m1v m1s)]=o3 at *
   simp only [go_sem]
   refine XK.callG [0,5] hfr2 ok154 (hhpG (by simp [-List.map_append,HH,upd,hOf,hpL,renCs_stC,renCs_I,renCs,renC,rk0,isI])) (hbT ()) (fun d h' ⟨_,e⟩=>by subst e;simp) ?_
   rintro _ _ ⟨rfl,rfl⟩ _
   iterate 14 ((try (refine drvZ Tryz.func98 ?_;simp only [go_sem,renCs_I,renCs_stC,hoc,hcl3,List.length_append,hq0,hqk,Nat.add_assoc]));((with_reducible and_intros)<;>try exact sd);(try first | refine XK.p cv ok152 ?_ | refine XK.gp cv ok152 ?_ | refine XK.p c0 ok156 ?_ | refine XK.gp c0 ok156 ?_ | refine XK.p hn ok158 ?_ | refine XK.gp hn ok158 ?_ | refine XK.p hm2 ok151 ?_ | refine XK.gp hm2 ok151 ?_ | refine XK.p ha2 ok150 ?_ | refine XK.gp ha2 ok150 ?_))
   refine XK.callG [0,3780] hB1 ok61 (hhpG (by simp [-List.map_append,HH,upd,hOf,hpL,renCs_stC,renCs_I,renCs,renC,rk0,isI])) (hbT ()) (fun d h' ⟨_,e⟩=>by subst e;simp) ?_ (fun _=>⟨by kernel_rfl,_,_,⟨rfl,rfl⟩,by simp⟩)
   rintro _ _ ⟨rfl,rfl⟩ _
   have hln5:o3.length+1+oj.length+ok'.length≤1000000:=by omega
   iterate 6 ((try (refine drvZ Tryz.func98 ?_;simp only [go_sem,renCs_I,renCs_stC,hoc,hcl3,hfj,List.length_append]));((with_reducible and_intros)<;>try exact sd))
   refine XK.callG [0,5828] hB2 ok61 (hhpG (by simp [-List.map_append,HH,upd,hOf,hpL,renCs_stC,renCs_I,renCs,renC,rk0,isI])) (hbT ()) (fun d h' ⟨_,e⟩=>by subst e;simp) ?_ (fun _=>⟨by kernel_rfl,_,_,⟨rfl,rfl⟩,by simp⟩)
   rintro _ _ ⟨rfl,rfl⟩ _
   iterate 6 ((try (refine drvZ Tryz.func98 ?_;simp only [go_sem,renCs_I,renCs_stC,hoc,hcl3,hfk,List.length_append]));((with_reducible and_intros)<;>try exact sd))
   exact RetOb.lnT (R:=R) (V:=vk') (out:=o3++[asg ((vi.length+1:Nat):Int) (.mk m2k m2v m2s)]++oj++ok') (by rw [← hR];exact ⟨rfl,by simp [← hO3]⟩) rfl rfl rfl rfl (fun _ _ _=>by rw [stC_app,stC_app,stC_snoc];exact CMs.app (CMs.app (CMs.app (CMs.kf (stC_kf _)) (by simp [CMs,CM,asg,sto,e0,selE,hitE,bE,rdE,cE,vE,St1.cells,St1.cellsL,Ex.cells,Ex.cellsL])) (CMs.kf (stC_kf _))) (CMs.kf (stC_kf _))) rfl (by simp only [List.length_append,List.length_cons,List.length_nil]) (by decide) (by decide) (by decide) (by decide) (by decide)
 ·have hin:=ih mk pc vs b hp hbo hl h1 (by omega) (by omega)
  have hls:linS ar (d+1) mk pc vs (.mk k t (.mk ik iv iks) (.mk vk vv vks) c b e)=((linB (linS ar d mk pc) vs b).1,[.mk 4 0 e0 e0 c (linB (linS ar d mk pc) vs b).2 []]):=by
   subst hk;rw [CtL.linS_4]
  rw [hls] at hR
  clear hls
  simp only at hin
  generalize linB (linS ar d mk pc) vs b=B at *
  obtain ⟨vj,oj⟩:=B
  simp only at hin hR
  subst hk
  obtain ⟨hp0,hpk⟩:=putL hcl
  refine dcZ Tryz.func98 ?_
  simp only [go_sem]
  iterate 4 ((try (refine drvZ Tryz.func98 ?_;simp only [go_sem]));((with_reducible and_intros)<;>try exact sd))
  refine XK.callG [0,1] hin ok61 (hhpG (by simp [HH,upd,hpL,renCs_I,renCs,renC,rk0,isI])) (hbT ()) (fun d h' ⟨_,e⟩=>by subst e;simp) ?_ (fun _=>⟨by kernel_rfl,_,_,⟨rfl,rfl⟩,by simp⟩)
  rintro _ _ ⟨rfl,rfl⟩ _
  iterate 5 ((try (refine drvZ Tryz.func98 ?_;simp only [go_sem,renCs_I,hcl,List.length_append,hp0,hpk,Nat.add_assoc]));((with_reducible and_intros)<;>try exact sd))
  exact RetOb.lnT (R:=R) (V:=vj) (out:=out++[.mk 4 0 e0 e0 c oj []]) (by rw [← hR];exact ⟨rfl,rfl⟩) rfl rfl rfl rfl (fun _ _ _=>by rw [stC_snoc];exact CMs.app (CMs.kf (stC_kf _)) (by simp [CMs,CM,asg,sto,e0,selE,hitE,bE,rdE,cE,vE,St1.cells,St1.cellsL,Ex.cells,Ex.cellsL])) rfl (by simp) (by decide) (by decide) (by decide) (by decide) (by decide)
theorem stmI0 {p:Pg}:StmI p 0:=fun _ _ _ _ _ _ h=>by simp [stmtOK] at h
theorem blockI {p : Pg} (hla : p.arrays.length ≤ 1048576) (h2 : lab3 p.arrays) : ∀ d, BlkI p d
 | 0=>blockI1 hla h2 0 stmI0
 | d+1=>blockI1 hla h2 (d+1) (stmtI1 hla h2 d (blockI hla h2 d))
theorem ownP (p:Pg) (q:Pg) (hv:p.vars.length≤1000000) (ha:p.arrays.length≤1000000) (hb:∀ s ∈ p.body,stmtOK q 5 s=true) (hz:lsize 5 p.body≤1000):DC Tryz.prog 62 [.agg p.cells] [] (fun r h=>r = .agg p.cells∧h=[]):=by
 have hmx:=mx_eq
 have hcv:=cloneI p.vars hv
 have hca:=cloneI p.arrays ha
 have hos:=ownStmts q 5 p.body hb hz
 generalize hR:(fun (r:D) (h:List (Option (List C)))=>r = .agg p.cells∧h=[])=R
 obtain ⟨vs,ar,bd⟩:=p
 simp only [ints] at hcv hca
 refine dcZ Tryz.func62 ?_
 simp only [go_sem]
 iterate 2 ((try (refine drvZ Tryz.func62 ?_;simp only [go_sem]));((with_reducible and_intros)<;>try exact sd))
 refine XK.callG [] hcv ok60 (fun i' x h=>by simp at h) (hbT ()) (fun d h' ⟨_,e⟩=>by subst e;simp) ?_ (fun _=>⟨by kernel_rfl,_,_,⟨rfl,rfl⟩,by simp⟩)
 rintro _ _ ⟨rfl,rfl⟩ _
 iterate 2 ((try (refine drvZ Tryz.func62 ?_;simp only [go_sem,renCs_I]));((with_reducible and_intros)<;>try exact sd))
 refine XK.callG [] hca ok60 (fun i' x h=>by simp at h) (hbT ()) (fun d h' ⟨_,e⟩=>by subst e;simp) ?_ (fun _=>⟨by kernel_rfl,_,_,⟨rfl,rfl⟩,by simp⟩)
 rintro _ _ ⟨rfl,rfl⟩ _
 iterate 4 ((try (refine drvZ Tryz.func62 ?_;simp only [go_sem,renCs_I]));((with_reducible and_intros)<;>try exact sd);(try first | refine XK.p hos ok99 ?_ | refine XK.gp hos ok99 ?_))
 refine RetOb.ofQ (fun _=>none) [256,448] (.agg (Pg.cells ⟨vs,ar,bd⟩)) [] ?_ (by rw [← hR];exact ⟨rfl,rfl⟩) (by simp)
 have g3:∀ x ∈ St1.cellsL bd,∀ c ∈ x,kf c=true:=fun x hx=>by rw [St1.cellsL_eq] at hx;obtain ⟨e,_,rfl⟩:=List.mem_map.1 hx;exact st_kf e
 simp [enumL,DM,DMs,CM,CMs,HpOK,LowOK,Pg.cells,isI,upd,flat_I,kf]
theorem linearizeI (p:Pg) (hok:progOK p=true):DC Tryz.prog 22 [.agg p.cells] [] (fun r h=>r = .tup [.agg (linP p).1.cells,DB (linP p).2]∧h=[]):=by
 have hmx:=mx_eq
 have hln:=prog_len hok
 have hbo:=body_of hok
 have hlab:=labs_of hok
 have hcs:=checkFlowI p (by omega) (by omega)
 have hqz:=CtL.linQ_sz hok
 have hqa:(linQ p).arrays=p.arrays:=rfl
 have hvq:=programValidI (linQ p) (by omega) (by rw [hqa];omega)
 have hcv:=cloneI p.vars (by omega)
 have hca:=cloneI p.arrays (by omega)
 have hbk:=blockI (p:=p) (by omega) hlab.2 5 (-1) 0 p.vars p.body (by omega) hbo.1 (by omega) hlab.1 (by omega) (by omega)
 have hBv:(linB (linS p.arrays 5 (-1) 0) p.vars p.body).1=(linQ p).vars:=rfl
 have hBb:(linB (linS p.arrays 5 (-1) 0) p.vars p.body).2=(linQ p).body:=rfl
 rw [hBv,hBb] at hbk
 have how:progOK (linQ p)=true→DC Tryz.prog 62 [.agg (linQ p).cells] [] (fun r h=>r = .agg (linQ p).cells∧h=[]):=fun h=>ownP (linQ p) (linQ p) (by omega) (by rw [hqa];omega) (body_of h).1 (by have:=(body_of h).2;omega)
 have hlp:linP p=if fineP flowR p=true∧progOK (linQ p)=true then (linQ p,true) else (⟨[],[],[]⟩,false):=rfl
 generalize hR:(fun (r:D) (h:List (Option (List C)))=>r = .tup [.agg (linP p).1.cells,DB (linP p).2]∧h=[])=R
 cases hf:fineP flowR p with
 | false =>
  have hbad:=chk_bad hf
  rw [hf,if_neg (by simp)] at hlp
  rw [hlp] at hR
  generalize chkR flowR p=x at *
  obtain ⟨code,at_⟩:=x
  simp only at hbad
  have hne:(code != 0)=true:=by simp [hbad]
  obtain ⟨vs,ar,bd⟩:=p
  refine dcZ Tryz.func22 ?_
  simp only [go_sem]
  iterate 5 ((try (refine drvZ Tryz.func22 ?_;simp only [go_sem,hne,hbad]));((with_reducible and_intros)<;>try exact sd);(try first | refine XK.p hcs ok50 ?_ | refine XK.gp hcs ok50 ?_))
  exact RetOb.pg0 (by rw [← hR];exact ⟨rfl,rfl⟩)
 | true =>
  rw [hf] at hlp
  have hgood:=(chk_fine flowR p).2 hf
  generalize chkR flowR p=x at *
  obtain ⟨code,at_⟩:=x
  simp only at hgood
  subst hgood
  generalize hlq:linQ p=q at *
  obtain ⟨vs,ar,bd⟩:=p
  obtain ⟨qv,qa,qb⟩:=q
  obtain rfl:qa=ar:=hqa
  simp only [ints] at hcv hca
  refine dcZ Tryz.func22 ?_
  simp only [go_sem]
  iterate 5 ((try (refine drvZ Tryz.func22 ?_;simp only [go_sem,bne_self_eq_false]));((with_reducible and_intros)<;>try exact sd);(try first | refine XK.p hcs ok50 ?_ | refine XK.gp hcs ok50 ?_))
  refine XK.callG [] hcv ok60 (fun i' x h=>by simp at h) (hbT ()) (fun d h' ⟨_,e⟩=>by subst e;simp) ?_ (fun _=>⟨by kernel_rfl,_,_,⟨rfl,rfl⟩,by simp⟩)
  rintro _ _ ⟨rfl,rfl⟩ _
  iterate 2 ((try (refine drvZ Tryz.func22 ?_;simp only [go_sem,renCs_I]));((with_reducible and_intros)<;>try exact sd))
  refine XK.callG [] hca ok60 (fun i' x h=>by simp at h) (hbT ()) (fun d h' ⟨_,e⟩=>by subst e;simp) ?_ (fun _=>⟨by kernel_rfl,_,_,⟨rfl,rfl⟩,by simp⟩)
  rintro _ _ ⟨rfl,rfl⟩ _
  iterate 3 ((try (refine drvZ Tryz.func22 ?_;simp only [go_sem,renCs_I]));((with_reducible and_intros)<;>try exact sd))
  refine XK.subQ (r := some) (fz := [1088]) (tl := [(2, .c (.ptr 64 0)), (3, DB false), (6, .c (.ptr 1280 0)), (24, .c (.ptr 1280 0)), (25, .c (.ptr 1280 0)), (27, .c (.isl 11 (St1.cellsL bd)))])
   (hl:=[(64,some [.v (.slice none 0 0),.v (.slice none 0 0),.v (.slice none 0 0)]),(1280,some [.msl 896 1 0 vs.length,isI qa,.v (.slice none 0 0)]),(896,some (vs.map I64))]) ?_ ?_
  ·simp only [go_sem,TmOK,DM,DMs,CM,CMs,forall_eq,exists_eq_left,Mq,HpOK,LowOK]
   simp [flat_I,kf,CMs_I]
  refine XK.callG [1280,896] hbk ok61 (hhpG (by simp [-List.map_append,HH,upd,hOf,hpL,renCs_stC,renCs_I,renCs,renC,rk0,isI])) (hbT ()) (fun d h' ⟨_,e⟩=>by subst e;simp) ?_
  rintro _ _ ⟨rfl,rfl⟩ _
  iterate 3 ((try (refine drvZ Tryz.func22 ?_;simp only [go_sem,renCs_I]));((with_reducible and_intros)<;>try exact sd))
  refine XK.subQ (r := some) (fz := [1664]) (tl := [(2, .c (.ptr 64 0)), (3, DB false), (6, .c (.ptr 1280 0)), (35, .agg (Pg.cells ⟨qv, qa, qb⟩))])
   (hl:=[(64,some [.v (.slice none 0 0),.v (.slice none 0 0),.v (.slice none 0 0)]),(1280,some (Pg.cells ⟨qv,qa,qb⟩))]) ?_ ?_
  ·simp only [go_sem,TmOK,DM,DMs,CM,CMs,forall_eq,exists_eq_left,Mq,HpOK,LowOK]
   simp [flat_I,kf,CMs_I]
  cases hq:progOK ⟨qv,qa,qb⟩ with
  | false =>
   rw [hq,if_neg (by simp)] at hlp
   rw [hlp] at hR
   rw [hq] at hvq
   iterate 4 ((try (refine drvZ Tryz.func22 ?_;simp only [go_sem]));((with_reducible and_intros)<;>try exact sd);(try first | refine XK.p hvq ok53 ?_ | refine XK.gp hvq ok53 ?_))
   exact RetOb.pg0 (by rw [← hR];exact ⟨rfl,rfl⟩)
  | true =>
   rw [hq,if_pos ⟨rfl,rfl⟩] at hlp
   rw [hlp] at hR
   rw [hq] at hvq
   have how:=how hq
   iterate 6 ((try (refine drvZ Tryz.func22 ?_;simp only [go_sem]));((with_reducible and_intros)<;>try exact sd);(try first | refine XK.p hvq ok53 ?_ | refine XK.gp hvq ok53 ?_ | refine XK.p how ok62 ?_ | refine XK.gp how ok62 ?_))
   exact RetOb.pgP (by rw [← hR];exact ⟨rfl,rfl⟩)
end Go.Proofs.YtmjkgjkkpaephaaGreat.CtD
