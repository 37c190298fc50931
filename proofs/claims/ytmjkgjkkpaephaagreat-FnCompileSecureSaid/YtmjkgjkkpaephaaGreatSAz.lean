/- Contracts of functions of the program, one behind the other, as plain data: what each call returns and which blocks it leaves. -/
import Derived.Test.YtmjkgjkkpaephaaGreatSFacts
import Derived.Test.YtmjkgjkkpaephaaGreatSAi
import Derived.Test.YtmjkgjkkpaephaaGreatSAj
import Derived.Test.YtmjkgjkkpaephaaGreatSAk
import Derived.Test.YtmjkgjkkpaephaaGreatSAm
import Derived.Test.YtmjkgjkkpaephaaGreatSAo
import Derived.Test.YtmjkgjkkpaephaaGreatSAp
import Derived.Test.YtmjkgjkkpaephaaGreatSAq
import Derived.Test.YtmjkgjkkpaephaaGreatSAr
import Derived.Test.YtmjkgjkkpaephaaGreatSAt
import Derived.Test.YtmjkgjkkpaephaaGreatSAu
import Derived.Test.YtmjkgjkkpaephaaGreatSAv
import Derived.Test.YtmjkgjkkpaephaaGreatSAw
import Derived.Test.YtmjkgjkkpaephaaGreatSAx
import Derived.Test.YtmjkgjkkpaephaaGreatSAy
import Derived.Test.YtmjkgjkkpaephaaGreatSAl
import Derived.Test.YtmjkgjkkpaephaaGreatSAn
set_option linter.unusedVariables false
set_option linter.unusedSimpArgs false
set_option maxHeartbeats 16000000
set_option maxRecDepth 100000
namespace Go.Proofs.YtmjkgjkkpaephaaGreat.CtD
open Go Go.CT CtF CtR
open CtL (e0 cE vE rdE bE selE hitE asg sto maskE readN readS stoN stoS linK lab1 linE linB linO maskS linI linS linQ linP)
theorem FE_right {p:Pg} {e:Ex} (h:right p e=true):FE e:=CtL.FE_shape 5 e (right_shape h).1
theorem linB_snoc {f:List Int→St1→List Int × List St1} (a:List St1) (x:St1) (vs:List Int):linB f vs (a++[x])=((f (linB f vs a).1 x).1,(linB f vs a).2++(f (linB f vs a).1 x).2):=by
 rw [CtL.linB_app];simp [linB]
theorem blockS1 {p:Pg} (hla:p.arrays.length≤1048576) (h2:lab3 p.arrays) (d:Nat) (ih:∀ d',d=d' + 1→BlkH p d'):BlkH p d:=by
 have hmx:=mx_eq
 intro mk pc vs out l hp hok hl h1 hb1 hb2
 have hT:∀ i x,l[i]? = some x→linB (linS p.arrays d mk pc) vs (l.take (i+1))=((linS p.arrays d mk pc (linB (linS p.arrays d mk pc) vs (l.take i)).1 x).1,(linB (linS p.arrays d mk pc) vs (l.take i)).2++(linS p.arrays d mk pc (linB (linS p.arrays d mk pc) vs (l.take i)).1 x).2):=fun i x hx=>by
  rw [List.take_add_one,hx];exact linB_snoc _ _ _
 have hTs:∀ i,(linB (linS p.arrays d mk pc) vs (l.take i)).1.length≤vs.length+17 * tsum (tsize d) l i∧(linB (linS p.arrays d mk pc) vs (l.take i)).2.length≤70 * tsum (tsize d) l i:=fun i=>by
  have h:=linB_sz2 (p:=p) d mk pc (l.take i) vs (fun s hs=>hok s (List.mem_of_mem_take hs)) hl
  have h4:=len_le_lsize1 (linB (linS p.arrays d mk pc) vs (l.take i)).2
  have h5:=h.2 1
  exact ⟨h.1,by unfold tsum;unfold lsize at h5 h4;omega⟩
 have hT3:∀ i,lab3 (linB (linS p.arrays d mk pc) vs (l.take i)).1:=fun i=>linB_lab3 (fun vs s h=>linS_lab3 h2 d mk pc vs s hp h) _ _ h1
 have hTm:∀ i,p.vars.length≤(linB (linS p.arrays d mk pc) vs (l.take i)).1.length:=fun i =>
  Nat.le_trans hl (CtL.more_le (CtL.lin_more (p:=p) d mk pc vs _ (fun s hs=>hok s (List.mem_of_mem_take hs)) hl))
 have hsum:=fun i=>tsum_le (tsize d) l i
 have hlz:lsize d l=(l.map (tsize d)).sum:=rfl
 have hll:l.length≤1000000:=by
  have:∀ s ∈ l,1≤tsize d s:=fun s hs=>by
   cases d with
   | zero=>have:=hok s hs;simp [stmtOK] at this
   | succ d=>exact tsize_pos s
  have:=len_le_sum (tsize d) l this
  omega
 generalize hR:StR p.arrays out (linB (linS p.arrays d mk pc) vs l)=R
 obtain ⟨pv,ar,pb⟩:=p
 simp only at *
 have hmx:=mx_eq
 refine dcZ Tryz.func96 ?_
 simp only [go_sem]
 iterate 2 ((try (refine drvZ Tryz.func96 ?_;simp only [go_sem]));((with_reducible and_intros)<;>try exact sd))
 refine Go.loopQ (fun i : Nat => [(1, .c (.isl 11 (St1.cellsL l))), (2, DI .i64 mk), (3, DI .i64 pc), (4, .c (.ptr 1 0)), (8, .c (.ptr 65 0)), (9, DI .i64 i)])
  (fun i=>[(0,none),(1,some [isI (linB (linS ar d mk pc) vs (l.take i)).1,isI ar,.v (.slice none 0 0),.msl 2 11 0 (out++(linB (linS ar d mk pc) vs (l.take i)).2).length]),(2,some (stC (out++(linB (linS ar d mk pc) vs (l.take i)).2))),(65,some [.v (.slice none 0 0),.v (.slice none 0 0),.v (.slice none 0 0),.v (.slice none 0 0)])])
  8192 (fun i=>i≤l.length) (fun i=>l.length - i) ?_ 0 (fun j=>if j=2 then some 0 else some j) [] _ (Nat.zero_le _) ?_
 ·intro i hi again
  rcases Nat.lt_or_ge i l.length with hlt | hge
  ·obtain ⟨⟨k,t,⟨ik,iv,iks⟩,⟨vk,vv,vks⟩,c,b,e⟩,hx⟩:∃ x,l[i]? = some x:=⟨l[i],by simp [hlt]⟩
   have hso:=hok _ (List.mem_of_getElem? hx)
   obtain ⟨d,rfl⟩:∃ d',d=d' + 1:=by
    cases d with
    | zero=>simp [stmtOK] at hso
    | succ d=>exact ⟨d,rfl⟩
   have ih:=ih d rfl
   have hTi:=hT i _ hx
   have hsz:=hTs i
   have hsu:=hsum (i+1)
   rw [tsum_succ (tsize (d+1)) l i _ hx] at hsu
   have hl3i:=hT3 i
   have hlm:=hTm i
   clear hT hTs hT3 hTm hsum
   generalize linB (linS ar (d+1) mk pc) vs (l.take i)=T at *
   obtain ⟨vi,oi⟩:=T
   simp only at hTi hsz hl3i hlm
   obtain ⟨hh,hbo,heo⟩:=stmtOK_succ hso
   have hts:tsize (d+1) (.mk k t (.mk ik iv iks) (.mk vk vv vks) c b e)=1+lsize d b+lsize d e:=by simp [tsize,lsize]
   have hcl:=stC_len (out++oi)
   have hlen:(out++oi).length≤1000000:=by rw [List.length_append];omega
   rcases head_kind hh with ⟨hk,_,_,hrv⟩ | ⟨hk,_,_,hri,hat,hrv⟩ | ⟨hk,hrv⟩ | ⟨hk,_⟩
   ·have hsv:=CtL.shape_mono (p:=⟨pv,ar,pb⟩) (q:=⟨vi,ar,[]⟩) hlm rfl 5 _ (right_shape hrv).1
    have hcnt:=(right_shape hrv).2
    have hex:=exprS ar pc hp h2 hla 5 _ vi (out++oi) hsv hl3i (by omega) (by omega)
    have hEs:=CtL.linE_sz (ar:=ar) (pc:=pc) 5 vi (.mk vk vv vks)
    rcases hk with hk | hk
    ·have hls:linS ar (d+1) mk pc vi (.mk k t (.mk ik iv iks) (.mk vk vv vks) c b e)=((linE ar pc 5 vi (.mk vk vv vks)).1,(linE ar pc 5 vi (.mk vk vv vks)).2.1++[asg t (maskE mk (linE ar pc 5 vi (.mk vk vv vks)).2.2 (vE t))]):=by
      subst hk;rw [CtL.linS_o (by decide) (by decide),CtL.linO_1]
     rw [hls] at hTi
     clear hls
     generalize linE ar pc 5 vi (.mk vk vv vks)=E at *
     obtain ⟨vj,oj,xe⟩:=E
     simp only at hex hEs hTi
     have cv:=varS t
     have hm:=maskES mk xe (vE t)
     have ha:=asgS vj ar (out++oi++oj) t (maskE mk xe (vE t)) (by simp only [List.length_append] at hlen ⊢;omega)
     obtain ⟨xk,xv,xks⟩:=xe
     generalize hM:maskE mk (.mk xk xv xks) (vE t)=M at *
     obtain ⟨mk',mv',mks'⟩:=M
     simp only [vE,Ex.cells,Ex.cellsL,List.cons_append,List.nil_append,List.length_cons,List.length_nil] at cv hm
     refine drvL Tryz.func96 ?_
     simp only [go_sem,hx,hlt]
     iterate 5 ((try (refine drvZ Tryz.func96 ?_;simp only [go_sem,hx,hlt,hk]));((with_reducible and_intros)<;>try exact sd))
     iterate 2 ((try (refine drvZ Tryz.func96 ?_;simp only [go_sem,hx,hlt,hk]));((with_reducible and_intros)<;>try exact sd))
     refine XK.callG [2] hex ok137 (hhpG (by simp [HH,upd,hpL,renCs_stC])) (hbT ()) (fun d h' ⟨_,e⟩=>by subst e;simp) ?_
     rintro _ _ ⟨rfl,rfl⟩ _
     iterate 7 ((try (refine drvZ Tryz.func96 ?_;simp only [go_sem,renCs_stC]));((with_reducible and_intros)<;>try exact sd);(try first | refine XK.p cv ok140 ?_ | refine XK.gp cv ok140 ?_ | refine XK.p hm ok139 ?_ | refine XK.gp hm ok139 ?_))
     refine XK.callG [9664] ha ok138 (hhpG (by simp [HH,upd,hpL,renCs_stC])) (hbT ()) (fun d h' ⟨_,e⟩=>by subst e;simp) ?_ (fun _=>⟨by kernel_rfl,_,_,⟨rfl,rfl⟩,by simp⟩)
     rintro _ _ ⟨rfl,rfl⟩ _
     iterate 3 ((try (refine drvZ Tryz.func96 ?_;simp only [go_sem,renCs_stC]));((with_reducible and_intros)<;>try exact sd))
     refine again (i+1) (fun j=>if j=2 then some 11136 else some j) [] _ hlt (by omega) ?_
     rw [hTi]
     simp only [← List.append_assoc]
     simp only [go_sem,TmOK,DM,DMs,CM,CMs,forall_eq,exists_eq_left,Mq,HpOK,LowOK]
     simp
     exact CMs.kf (stC_kf _)
    ·have hls:linS ar (d+1) mk pc vi (.mk k t (.mk ik iv iks) (.mk vk vv vks) c b e)=((linE ar pc 5 vi (.mk vk vv vks)).1,(linE ar pc 5 vi (.mk vk vv vks)).2.1++[.mk 5 t e0 (linE ar pc 5 vi (.mk vk vv vks)).2.2 0 [] []]):=by
      subst hk;rw [CtL.linS_o (by decide) (by decide),CtL.linO_5]
     rw [hls] at hTi
     clear hls
     generalize linE ar pc 5 vi (.mk vk vv vks)=E at *
     obtain ⟨vj,oj,⟨xk,xv,xks⟩⟩:=E
     simp only at hex hEs hTi
     have hcl2:=stC_len (out++oi++oj)
     have hlen2:(out++oi++oj).length≤1000000:=by simp only [List.length_append] at hlen ⊢;omega
     refine drvL Tryz.func96 ?_
     simp only [go_sem,hx,hlt]
     iterate 5 ((try (refine drvZ Tryz.func96 ?_;simp only [go_sem,hx,hlt,hk]));((with_reducible and_intros)<;>try exact sd))
     refine XK.callG [2] hex ok137 (hhpG (by simp [HH,upd,hpL,renCs_stC])) (hbT ()) (fun d h' ⟨_,e⟩=>by subst e;simp) ?_
     rintro _ _ ⟨rfl,rfl⟩ _
     iterate 5 ((try (refine drvZ Tryz.func96 ?_;simp only [go_sem,renCs_stC,hcl2]));((with_reducible and_intros)<;>try exact sd))
     ((try (refine drvZ Tryz.func96 ?_;simp only [go_sem]));((with_reducible and_intros)<;>try exact sd))
     refine again (i+1) (fun j=>if j=2 then some 10752 else some j) [] _ hlt (by omega) ?_
     rw [hTi]
     simp only [← List.append_assoc]
     simp only [go_sem,TmOK,DM,DMs,CM,CMs,forall_eq,exists_eq_left,Mq,HpOK,LowOK,stC_snoc,List.length_append]
     simp [asg,sto,e0,St1.cells,St1.cellsL,Ex.cells,Ex.cellsL]
     exact CMs.app (CMs.kf (stC_kf _)) (by simp [CMs,CM,St1.cells,St1.cellsL,Ex.cells,Ex.cellsL])
   ·have hsv:=CtL.shape_mono (p:=⟨pv,ar,pb⟩) (q:=⟨vi,ar,[]⟩) hlm rfl 5 _ (right_shape hrv).1
    have hsi:=CtL.shape_mono (p:=⟨pv,ar,pb⟩) (q:=⟨vi,ar,[]⟩) hlm rfl 5 _ (right_shape hri).1
    have hcnt:=(right_shape hrv).2
    have hex:=exprS ar pc hp h2 hla 5 _ vi (out++oi) hsv hl3i (by omega) (by omega)
    have hEs:=CtL.linE_sz (ar:=ar) (pc:=pc) 5 vi (.mk vk vv vks)
    have hls:linS ar (d+1) mk pc vi (.mk k t (.mk ik iv iks) (.mk vk vv vks) c b e)=linO ar mk pc (linE ar pc 5 vi (.mk vk vv vks)) 2 t (.mk ik iv iks):=by
     subst hk;rw [CtL.linS_o (by decide) (by decide)]
    rw [hls,CtL.linO_2] at hTi
    clear hls
    have hEo:=CtL.linE_ok (ar:=ar) (q:=⟨[],ar,[]⟩) rfl pc 5 vi _ hsv
    have hEl:=linE_lab3 hp h2 5 vi (.mk vk vv vks) hl3i
    have hEm:=CtL.more_le hEo.more
    have hEsh:=hEo.shp
    have hsi2:=CtL.shape_mono (p:=⟨vi,ar,[]⟩) (q:=⟨(linE ar pc 5 vi (.mk vk vv vks)).1,ar,[]⟩) hEm rfl 5 _ hsi
    clear hEo
    generalize linE ar pc 5 vi (.mk vk vv vks)=E at *
    obtain ⟨vj,oj,xe⟩:=E
    simp only at hex hEs hTi hEl hEm hEsh hsi2
    have hlab:=labelL vj ar (by omega) (by omega) hEl h2 5 _ hsi2
    have hle:=labN_le hEl h2 5 (.mk ik iv iks)
    have hse:=labelSecretS (labN vj ar 5 (.mk ik iv iks)) hle
    have hlen2:(out++oi++oj).length≤1000000:=by simp only [List.length_append] at hlen ⊢;omega
    cases hsec:secL (labN vj ar 5 (.mk ik iv iks)) with
    | true =>
     rw [hsec] at hse
     rw [hsec,if_pos rfl] at hTi
     have hst:=storeS ar pc hp h2 hla mk k t (.mk ik iv iks) (.mk vk vv vks) xe c b e vj (out++oi++oj) hEsh hEl (by omega) (by omega)
     generalize labN vj ar 5 (.mk ik iv iks)=li at *
     obtain ⟨xk,xv,xks⟩:=xe
     rw [hk] at hst
     refine drvL Tryz.func96 ?_
     simp only [go_sem,hx,hlt]
     iterate 5 ((try (refine drvZ Tryz.func96 ?_;simp only [go_sem,hx,hlt,hk]));((with_reducible and_intros)<;>try exact sd))
     refine XK.callG [2] hex ok137 (hhpG (by simp [HH,upd,hpL,renCs_stC])) (hbT ()) (fun d h' ⟨_,e⟩=>by subst e;simp) ?_
     rintro _ _ ⟨rfl,rfl⟩ _
     iterate 7 ((try (refine drvZ Tryz.func96 ?_;simp only [go_sem,renCs_stC]));((with_reducible and_intros)<;>try exact sd);(try first | refine XK.p hlab ok142 ?_ | refine XK.gp hlab ok142 ?_ | refine XK.p hse ok141 ?_ | refine XK.gp hse ok141 ?_))
     refine XK.callG [9664] hst ok143 (hhpG (by simp [HH,upd,hpL,renCs_stC])) (hbT ()) (fun d h' ⟨_,e⟩=>by subst e;simp) ?_
     rintro _ _ ⟨rfl,rfl⟩ _
     iterate 3 ((try (refine drvZ Tryz.func96 ?_;simp only [go_sem,renCs_stC]));((with_reducible and_intros)<;>try exact sd))
     refine again (i+1) (fun j=>if j=2 then some 11328 else some j) [] _ hlt (by omega) ?_
     rw [hTi]
     simp only [← List.append_assoc]
     simp only [go_sem,TmOK,DM,DMs,CM,CMs,forall_eq,exists_eq_left,Mq,HpOK,LowOK]
     simp
     exact CMs.kf (stC_kf _)
    | false =>
     rw [hsec] at hse
     rw [hsec,if_neg (by simp)] at hTi
     have hcp:=copyE _ (FE_right hri)
     have hrd:=readS1 t (.mk ik iv iks)
     have hm:=maskES mk xe (rdE t (.mk ik iv iks))
     generalize labN vj ar 5 (.mk ik iv iks)=li at *
     obtain ⟨xk,xv,xks⟩:=xe
     generalize hM:maskE mk (.mk xk xv xks) (rdE t (.mk ik iv iks))=M at *
     obtain ⟨mk',mv',mks'⟩:=M
     have hcl2:=stC_len (out++oi++oj)
     simp only [rdE,Ex.cells,Ex.cellsL,List.cons_append,List.nil_append,List.length_cons,List.length_nil] at hrd hm
     refine drvL Tryz.func96 ?_
     simp only [go_sem,hx,hlt]
     iterate 5 ((try (refine drvZ Tryz.func96 ?_;simp only [go_sem,hx,hlt,hk]));((with_reducible and_intros)<;>try exact sd))
     refine XK.callG [2] hex ok137 (hhpG (by simp [HH,upd,hpL,renCs_stC])) (hbT ()) (fun d h' ⟨_,e⟩=>by subst e;simp) ?_
     rintro _ _ ⟨rfl,rfl⟩ _
     iterate 9 ((try (refine drvZ Tryz.func96 ?_;simp only [go_sem,renCs_stC,hcl2]));((with_reducible and_intros)<;>try exact sd);(try first | refine XK.p hlab ok142 ?_ | refine XK.gp hlab ok142 ?_ | refine XK.p hse ok141 ?_ | refine XK.gp hse ok141 ?_ | refine XK.p hcp ok144 ?_ | refine XK.gp hcp ok144 ?_ | refine XK.p hrd ok145 ?_ | refine XK.gp hrd ok145 ?_ | refine XK.p hm ok139 ?_ | refine XK.gp hm ok139 ?_))
     ((try (refine drvZ Tryz.func96 ?_;simp only [go_sem]));((with_reducible and_intros)<;>try exact sd))
     refine again (i+1) (fun j=>if j=2 then some 12160 else some j) [] _ hlt (by omega) ?_
     rw [hTi]
     simp only [← List.append_assoc]
     simp only [go_sem,TmOK,DM,DMs,CM,CMs,forall_eq,exists_eq_left,Mq,HpOK,LowOK,stC_snoc,List.length_append]
     simp [asg,sto,e0,St1.cells,St1.cellsL,Ex.cells,Ex.cellsL]
     exact CMs.app (CMs.kf (stC_kf _)) (by simp [CMs,CM,St1.cells,St1.cellsL,Ex.cells,Ex.cellsL])
   ·have hif:=ifS ih hla h2 mk pc vi (out++oi) k t (.mk ik iv iks) (.mk vk vv vks) c b e hk hp hso hlm hl3i (by omega) (by rw [List.length_append];omega)
    unfold StR at hif
    rw [hk] at hif hTi
    refine drvL Tryz.func96 ?_
    simp only [go_sem,hx,hlt]
    iterate 5 ((try (refine drvZ Tryz.func96 ?_;simp only [go_sem,hx,hlt,hk]));((with_reducible and_intros)<;>try exact sd))
    refine XK.callG [2] hif ok135 (hhpG (by simp [HH,upd,hpL,renCs_stC])) (hbT ()) (fun d h' ⟨_,e⟩=>by subst e;simp) ?_
    rintro _ _ ⟨rfl,rfl⟩ _
    iterate 3 ((try (refine drvZ Tryz.func96 ?_;simp only [go_sem,renCs_stC]));((with_reducible and_intros)<;>try exact sd))
    refine again (i+1) (fun j=>if j=2 then some 9280 else some j) [] _ hlt (by omega) ?_
    rw [hTi]
    simp only [← List.append_assoc]
    simp only [go_sem,TmOK,DM,DMs,CM,CMs,forall_eq,exists_eq_left,Mq,HpOK,LowOK]
    simp
    exact CMs.kf (stC_kf _)
   ·have hin:=innerS ih mk pc vi (out++oi) b hp hbo hlm hl3i (by omega) (by omega) hlen
    have hls:linS ar (d+1) mk pc vi (.mk k t (.mk ik iv iks) (.mk vk vv vks) c b e)=((linB (linS ar d mk pc) vi b).1,[.mk 4 0 e0 e0 c (linB (linS ar d mk pc) vi b).2 []]):=by
     subst hk;rw [CtL.linS_4]
    rw [hls] at hTi
    clear hls
    simp only at hin
    generalize linB (linS ar d mk pc) vi b=B at *
    obtain ⟨vj,oj⟩:=B
    simp only at hin hTi
    refine drvL Tryz.func96 ?_
    simp only [go_sem,hx,hlt]
    iterate 5 ((try (refine drvZ Tryz.func96 ?_;simp only [go_sem,hx,hlt,hk]));((with_reducible and_intros)<;>try exact sd))
    refine XK.callG [2] hin ok136 (hhpG (by simp [HH,upd,hpL,renCs_stC])) (hbT ()) (fun d h' ⟨_,e⟩=>by subst e;simp) ?_
    rintro _ _ ⟨rfl,rfl⟩ _
    iterate 4 ((try (refine drvZ Tryz.func96 ?_;simp only [go_sem,renCs_stC,hcl]));((with_reducible and_intros)<;>try exact sd))
    ((try (refine drvZ Tryz.func96 ?_;simp only [go_sem]));((with_reducible and_intros)<;>try exact sd))
    refine again (i+1) (fun j=>if j=2 then some 10496 else some j) [] _ hlt (by omega) ?_
    rw [hTi]
    simp only [← List.append_assoc]
    simp only [go_sem,TmOK,DM,DMs,CM,CMs,forall_eq,exists_eq_left,Mq,HpOK,LowOK,stC_snoc,List.length_append]
    simp [asg,sto,e0,St1.cells,St1.cellsL,Ex.cells,Ex.cellsL]
    exact CMs.app (CMs.kf (stC_kf _)) (by simp [CMs,CM,St1.cells,St1.cellsL,Ex.cells,Ex.cellsL])
  ·have hn:¬ i<l.length:=by omega
   obtain rfl:i=l.length:=by omega
   clear again hT hTs hT3 hTm
   rw [List.take_length]
   generalize linB (linS ar d mk pc) vs l=T at *
   obtain ⟨vi,oi⟩:=T
   refine drvL Tryz.func96 ?_
   simp only [go_sem,hn]
   iterate 3 ((try (refine drvZ Tryz.func96 ?_;simp only [go_sem,hn]));((with_reducible and_intros)<;>try exact sd))
   exact RetOb.linS (R:=R) (out':=out++oi) (cs:=stC (out++oi)) (by rw [← hR];exact ⟨rfl,rfl⟩) (by simp [upd]) rfl rfl (by omega)
 ·simp only [go_sem,TmOK,DM,DMs,CM,CMs,forall_eq,exists_eq_left,Mq,HpOK,LowOK]
  simp [linB]
  exact CMs.kf (stC_kf _)
theorem blockS {p : Pg} (hla : p.arrays.length ≤ 1048576) (h2 : lab3 p.arrays) : ∀ d, BlkH p d
 | 0=>blockS1 hla h2 0 fun _ h=>by omega
 | d+1=>blockS1 hla h2 (d+1) fun d' h=>by
  obtain rfl:d=d':=by omega
  exact blockS hla h2 d
theorem RetOb.pg0 {R:D→List (Option (List C))→Prop} {hp:Hp} {x:Bool} (hR:R (.tup [.agg (Pg.cells ⟨[],[],[]⟩),DB x]) []):RetOb 0 R (.tup [.agg [.v (.slice none 0 0),.v (.slice none 0 0),.v (.slice none 0 0)],DB x]) hp:=by
 refine RetOb.ofQ (fun _=>none) [] (.tup [.agg (Pg.cells ⟨[],[],[]⟩),DB x]) [] ?_ hR (by simp)
 simp [enumL,DM,DMs,CM,CMs,HpOK,LowOK,Pg.cells,isI,St1.cellsL]
theorem RetOb.pgP {R:D→List (Option (List C))→Prop} {V A:List Int} {B:List St1} {hp:Hp} {x:Bool} (hR:R (.tup [.agg (Pg.cells ⟨V,A,B⟩),DB x]) []):RetOb 0 R (.tup [.agg [isI V,isI A,.isl 11 (St1.cellsL B)],DB x]) hp:=by
 refine RetOb.ofQ (fun _=>none) [] (.tup [.agg (Pg.cells ⟨V,A,B⟩),DB x]) [] ?_ hR (by simp)
 have g3:∀ x ∈ St1.cellsL B,∀ c ∈ x,kf c=true:=fun x hx=>by rw [St1.cellsL_eq] at hx;obtain ⟨e,_,rfl⟩:=List.mem_map.1 hx;exact st_kf e
 simp [enumL,DM,DMs,CM,CMs,HpOK,LowOK,Pg.cells,isI,kf]
theorem chk_bad {res:List Int→List Int→St1→Nat→Int} {p:Pg} (h:fineP res p=false):((chkR res p).1=0)=False:=eq_false fun e=>by
 rw [(chk_fine res p).1 e] at h;cases h
theorem linearizeS (p:Pg) (hok:progOK p=true):DC Tryz.prog 57 [.agg p.cells] [] (fun r h=>r = .tup [.agg (linP p).1.cells,DB (linP p).2]∧h=[]):=by
 have hmx:=mx_eq
 have hln:=prog_len hok
 have hbo:=body_of hok
 have hlab:=labs_of hok
 have hfs:=CtL.prog_FS hok
 have hcs:=checkFlowS p (by omega) (by omega) (by omega)
 have hcp:=copyP p (by omega) (by omega) (by omega) hfs.2
 have hqz:=CtL.linQ_sz hok
 have hqa:(linQ p).arrays=p.arrays:=rfl
 have hq3:lab3 (linQ p).vars:=linB_lab3 (fun vs s h=>linS_lab3 hlab.2 5 (-1) 0 vs s (by omega) h) _ _ hlab.1
 have hcq:=copyP (linQ p) (by omega) (by rw [hqa];omega) (by omega) hqz.2.2.2
 have hvq:=programValidS (linQ p) (by omega) (by rw [hqa];omega) (by have:=hqz.2.2.1 5;omega)
 have hbk:=blockS (p:=p) (by omega) hlab.2 5 (-1) 0 p.vars [] p.body (by omega) hbo.1 (by omega) hlab.1 (by omega) (by simp;omega)
 unfold StR at hbk
 have hBv:(linB (linS p.arrays 5 (-1) 0) p.vars p.body).1=(linQ p).vars:=rfl
 have hBb:(linB (linS p.arrays 5 (-1) 0) p.vars p.body).2=(linQ p).body:=rfl
 rw [hBv,hBb] at hbk
 have hbk:=DC.nilAggOwn (pre:=[isI p.vars,isI p.arrays,.v (.slice none 0 0)]) (h:=[]) hbk
 have hlp:linP p=if fineP flowR p=true∧progOK (linQ p)=true then (linQ p,true) else (⟨[],[],[]⟩,false):=rfl
 generalize hR:(fun (r:D) (h:List (Option (List C)))=>r = .tup [.agg (linP p).1.cells,DB (linP p).2]∧h=[])=R
 cases hf:fineP flowR p with
 | false =>
  have hbad:=chk_bad hf
  rw [hf,if_neg (by simp)] at hlp
  rw [hlp] at hR
  generalize chkR flowR p=x at *
  obtain ⟨code,at_⟩:=x
  simp only at hbad
  have hne:(code != 0)=true:=by simp [hbad]
  obtain ⟨vs,ar,bd⟩:=p
  refine dcZ Tryz.func57 ?_
  simp only [go_sem]
  iterate 5 ((try (refine drvZ Tryz.func57 ?_;simp only [go_sem,hne,hbad]));((with_reducible and_intros)<;>try exact sd);(try first | refine XK.p hcs ok95 ?_ | refine XK.gp hcs ok95 ?_))
  exact RetOb.pg0 (by rw [← hR];exact ⟨rfl,rfl⟩)
 | true =>
  rw [hf] at hlp
  have hgood:=(chk_fine flowR p).2 hf
  generalize chkR flowR p=x at *
  obtain ⟨code,at_⟩:=x
  simp only at hgood
  subst hgood
  generalize hlq:linQ p=q at *
  obtain ⟨vs,ar,bd⟩:=p
  obtain ⟨qv,qa,qb⟩:=q
  obtain rfl:qa=ar:=hqa
  refine dcZ Tryz.func57 ?_
  simp only [go_sem]
  iterate 5 ((try (refine drvZ Tryz.func57 ?_;simp only [go_sem,bne_self_eq_false]));((with_reducible and_intros)<;>try exact sd);(try first | refine XK.p hcs ok95 ?_ | refine XK.gp hcs ok95 ?_))
  refine XK.callG [] hcp ok80 (fun i' x h=>by simp at h) (hbT ()) (fun d h' ⟨_,e⟩=>by subst e;simp) ?_
  rintro _ _ ⟨rfl,rfl⟩ _
  iterate 1 ((try (refine drvZ Tryz.func57 ?_;simp only [go_sem,renCs_I,renCs_stC]));((with_reducible and_intros)<;>try exact sd))
  refine XK.subQ (r := some) (fz := [832, 833, 834]) (tl := [(2, .c (.ptr 64 0)), (3, DB false), (24, .agg [isI vs, isI qa, .v (.slice none 0 0), .v (.slice none 0 0)]), (25, .c (.ptr 896 2))])
   (hl:=[(64,some [.v (.slice none 0 0),.v (.slice none 0 0),.v (.slice none 0 0)]),(896,some (Pg.cells ⟨vs,qa,bd⟩))]) ?_ ?_
  ·have g1:(St1.cellsL bd).flatten=stC bd:=by rw [St1.cellsL_eq];rfl
   have g2:∀ x ∈ St1.cellsL bd,x.length=11:=fun x hx=>by rw [St1.cellsL_eq] at hx;obtain ⟨e,_,rfl⟩:=List.mem_map.1 hx;exact St1.cells_len e
   have g3:∀ x ∈ St1.cellsL bd,∀ c ∈ x,kf c=true:=fun x hx=>by rw [St1.cellsL_eq] at hx;obtain ⟨e,_,rfl⟩:=List.mem_map.1 hx;exact st_kf e
   simp only [go_sem,TmOK,DM,DMs,CM,CMs,forall_eq,exists_eq_left,Mq,HpOK,LowOK]
   simp [flat_I,kf,g1,CMs,CM]
   exact ⟨g2,g3⟩
  iterate 1 ((try (refine drvZ Tryz.func57 ?_;simp only [go_sem]));((with_reducible and_intros)<;>try exact sd))
  refine XK.callG [] hbk ok96 (fun i' x h=>by simp at h) (hbT ()) (fun d h' ⟨_,e⟩=>by subst e;simp) ?_
  rintro _ _ ⟨rfl,rfl⟩ _
  refine XK.subQ (r := some) (fz := [1537]) (tl := [(2, .c (.ptr 64 0)), (3, DB false), (27, .agg [isI qv, isI qa, .v (.slice none 0 0), .isl 11 (St1.cellsL qb)])])
   (hl:=[(64,some [.v (.slice none 0 0),.v (.slice none 0 0),.v (.slice none 0 0)])]) ?_ ?_
  ·have g1:(St1.cellsL qb).flatten=stC qb:=by rw [St1.cellsL_eq];rfl
   have g2:∀ x ∈ St1.cellsL qb,x.length=11:=fun x hx=>by rw [St1.cellsL_eq] at hx;obtain ⟨e,_,rfl⟩:=List.mem_map.1 hx;exact St1.cells_len e
   have g3:∀ x ∈ St1.cellsL qb,∀ c ∈ x,kf c=true:=fun x hx=>by rw [St1.cellsL_eq] at hx;obtain ⟨e,_,rfl⟩:=List.mem_map.1 hx;exact st_kf e
   simp only [go_sem,TmOK,DM,DMs,CM,CMs,forall_eq,exists_eq_left,Mq,HpOK,LowOK,renCs_stC]
   simp [flat_I,kf,g1,CMs,CM]
   exact ⟨g2,g3⟩
  iterate 4 ((try (refine drvZ Tryz.func57 ?_;simp only [go_sem]));((with_reducible and_intros)<;>try exact sd))
  refine XK.callG [] hcq ok80 (fun i' x h=>by simp at h) (hbT ()) (fun d h' ⟨_,e⟩=>by subst e;simp) ?_
  rintro _ _ ⟨rfl,rfl⟩ _
  iterate 1 ((try (refine drvZ Tryz.func57 ?_;simp only [go_sem,renCs_I,renCs_stC]));((with_reducible and_intros)<;>try exact sd))
  refine XK.subQ (r := some) (fz := [2304, 2305, 2306]) (tl := [(2, .c (.ptr 64 0)), (3, DB false), (8, .c (.ptr 2368 0)), (38, .agg (Pg.cells ⟨qv, qa, qb⟩))])
   (hl:=[(64,some [.v (.slice none 0 0),.v (.slice none 0 0),.v (.slice none 0 0)]),(2368,some (Pg.cells ⟨qv,qa,qb⟩))]) ?_ ?_
  ·have g1:(St1.cellsL qb).flatten=stC qb:=by rw [St1.cellsL_eq];rfl
   have g2:∀ x ∈ St1.cellsL qb,x.length=11:=fun x hx=>by rw [St1.cellsL_eq] at hx;obtain ⟨e,_,rfl⟩:=List.mem_map.1 hx;exact St1.cells_len e
   have g3:∀ x ∈ St1.cellsL qb,∀ c ∈ x,kf c=true:=fun x hx=>by rw [St1.cellsL_eq] at hx;obtain ⟨e,_,rfl⟩:=List.mem_map.1 hx;exact st_kf e
   simp only [go_sem,TmOK,DM,DMs,CM,CMs,forall_eq,exists_eq_left,Mq,HpOK,LowOK]
   simp [flat_I,kf,g1,CMs,CM]
   exact ⟨g2,g3⟩
  cases hq:progOK ⟨qv,qa,qb⟩ with
  | false =>
   rw [hq,if_neg (by simp)] at hlp
   rw [hlp] at hR
   rw [hq] at hvq
   iterate 4 ((try (refine drvZ Tryz.func57 ?_;simp only [go_sem]));((with_reducible and_intros)<;>try exact sd);(try first | refine XK.p hvq ok97 ?_ | refine XK.gp hvq ok97 ?_))
   exact RetOb.pg0 (by rw [← hR];exact ⟨rfl,rfl⟩)
  | true =>
   rw [hq,if_pos ⟨rfl,rfl⟩] at hlp
   rw [hlp] at hR
   rw [hq] at hvq
   iterate 4 ((try (refine drvZ Tryz.func57 ?_;simp only [go_sem]));((with_reducible and_intros)<;>try exact sd);(try first | refine XK.p hvq ok97 ?_ | refine XK.gp hvq ok97 ?_))
   exact RetOb.pgP (by rw [← hR];exact ⟨rfl,rfl⟩)
theorem constI (n:Int):DC Tryz.prog 156 [DI .i64 n] [] (fun r h=>r = .agg (cE n).cells∧h=[]):=by
 refine dcZ Tryz.func156 ?_
 simp only [go_sem]
 iterate 2 ((try (refine drvZ Tryz.func156 ?_;simp only [go_sem]));((with_reducible and_intros)<;>try exact sd))
 refine RetOb.ofQ (fun _=>none) [] (.agg (Ex.cells (cE n))) [] ?_ ⟨rfl,rfl⟩ (by simp)
 simp [enumL,hOf,DM,DMs,CM,CMs,HpOK,LowOK,cE,Ex.cells,Ex.cellsL]
theorem varI (n:Int):DC Tryz.prog 152 [DI .i64 n] [] (fun r h=>r = .agg (vE n).cells∧h=[]):=by
 refine dcZ Tryz.func152 ?_
 simp only [go_sem]
 iterate 2 ((try (refine drvZ Tryz.func152 ?_;simp only [go_sem]));((with_reducible and_intros)<;>try exact sd))
 refine RetOb.ofQ (fun _=>none) [] (.agg (Ex.cells (vE n))) [] ?_ ⟨rfl,rfl⟩ (by simp)
 simp [enumL,hOf,DM,DMs,CM,CMs,HpOK,LowOK,vE,Ex.cells,Ex.cellsL]
theorem pairI (k:Int) (a b:Ex):DC Tryz.prog 158 [DI .i64 k,.agg a.cells,.agg b.cells] [] (fun r h=>r = .agg (bE k a b).cells∧h=[]):=by
 have hmx:=mx_eq
 obtain ⟨ak,av,az⟩:=a
 obtain ⟨bk,bv,bs⟩:=b
 refine dcZ Tryz.func158 ?_
 simp only [go_sem]
 iterate 2 ((try (refine drvZ Tryz.func158 ?_;simp only [go_sem]));((with_reducible and_intros)<;>try exact sd))
 exact RetOb.node (ks:=[.mk ak av az,.mk bk bv bs]) ⟨rfl,rfl⟩ (by simp [upd];rfl) (by simp [exC,Ex.cells]) rfl
theorem chooseI (a b c:Ex):DC Tryz.prog 157 [.agg a.cells,.agg b.cells,.agg c.cells] [] (fun r h=>r = .agg (selE a b c).cells∧h=[]):=by
 have hmx:=mx_eq
 obtain ⟨ak,av,az⟩:=a
 obtain ⟨bk,bv,bs⟩:=b
 obtain ⟨ck,cv,cs⟩:=c
 refine dcZ Tryz.func157 ?_
 simp only [go_sem]
 iterate 2 ((try (refine drvZ Tryz.func157 ?_;simp only [go_sem]));((with_reducible and_intros)<;>try exact sd))
 exact RetOb.node (ks:=[.mk ak av az,.mk bk bv bs,.mk ck cv cs]) ⟨rfl,rfl⟩ (by simp [upd];rfl) (by simp [exC,Ex.cells]) rfl
theorem elementI (t:Int) (i:Ex):DC Tryz.prog 153 [DI .i64 t,.agg i.cells] [] (fun r h=>r = .agg (rdE t i).cells∧h=[]):=by
 have hmx:=mx_eq
 obtain ⟨k,v,ks⟩:=i
 refine dcZ Tryz.func153 ?_
 simp only [go_sem]
 iterate 2 ((try (refine drvZ Tryz.func153 ?_;simp only [go_sem]));((with_reducible and_intros)<;>try exact sd))
 exact RetOb.node (ks:=[.mk k v ks]) ⟨rfl,rfl⟩ (by simp [upd];rfl) (by simp [exC,Ex.cells]) rfl
theorem isAtI (i:Ex) (k:Int):DC Tryz.prog 155 [.agg i.cells,DI .i64 k] [] (fun r h=>r = .agg (hitE i k).cells∧h=[]):=by
 have hmx:=mx_eq
 have c1:=constI 3
 have c2:=constI k
 have n1:=pairI 7 i (cE 3)
 have n2:=pairI 9 (bE 7 i (cE 3)) (cE k)
 obtain ⟨ik,iv,iks⟩:=i
 simp only [cE,bE,Ex.cells,Ex.cellsL,List.cons_append,List.nil_append,List.length_cons,List.length_nil] at c1 c2 n1 n2
 refine dcZ Tryz.func155 ?_
 simp only [go_sem]
 iterate 6 ((try (refine drvZ Tryz.func155 ?_;simp only [go_sem]));((with_reducible and_intros)<;>try exact sd);(try first | refine XK.p c1 ok156 ?_ | refine XK.gp c1 ok156 ?_ | refine XK.p c2 ok156 ?_ | refine XK.gp c2 ok156 ?_ | refine XK.p n1 ok158 ?_ | refine XK.gp n1 ok158 ?_ | refine XK.p n2 ok158 ?_ | refine XK.gp n2 ok158 ?_))
 exact RetOb.kfA ⟨rfl,rfl⟩ (by simp [kf])
theorem maskedI (mk:Int) (e f:Ex):DC Tryz.prog 151 [DI .i64 mk,.agg e.cells,.agg f.cells] [] (fun r h=>r = .agg (maskE mk e f).cells∧h=[]):=by
 have hmx:=mx_eq
 have c1:=varI mk
 have n1:=chooseI (vE mk) e f
 obtain ⟨ek,ev,eks⟩:=e
 obtain ⟨fk,fv,fks⟩:=f
 simp only [vE,selE,Ex.cells,Ex.cellsL,List.cons_append,List.nil_append,List.length_cons,List.length_nil] at c1 n1
 by_cases hm:mk<0
 ·have hg:=eq_true hm
  have he:maskE mk (.mk ek ev eks) (.mk fk fv fks) = .mk ek ev eks:=by simp [maskE,hm]
  rw [he]
  refine dcZ Tryz.func151 ?_
  simp only [go_sem,hg]
  iterate 2 ((try (refine drvZ Tryz.func151 ?_;simp only [go_sem,hg]));((with_reducible and_intros)<;>try exact sd))
  exact RetOb.kfA ⟨rfl,rfl⟩ (by simp [kf])
 ·have hg:=eq_false hm
  have he:maskE mk (.mk ek ev eks) (.mk fk fv fks)=selE (vE mk) (.mk ek ev eks) (.mk fk fv fks):=by simp [maskE,hm]
  rw [he]
  refine dcZ Tryz.func151 ?_
  simp only [go_sem,hg]
  iterate 4 ((try (refine drvZ Tryz.func151 ?_;simp only [go_sem,hg]));((with_reducible and_intros)<;>try exact sd);(try first | refine XK.p c1 ok152 ?_ | refine XK.gp c1 ok152 ?_ | refine XK.p n1 ok157 ?_ | refine XK.gp n1 ok157 ?_))
  exact RetOb.kfA ⟨rfl,rfl⟩ (by simp [kf])
theorem assignI (w:Int) (e:Ex):DC Tryz.prog 150 [DI .i64 w,.agg e.cells] [] (fun r h=>r = .agg (asg w e).cells∧h=[]):=by
 have hmx:=mx_eq
 obtain ⟨ek,ev,eks⟩:=e
 refine dcZ Tryz.func150 ?_
 simp only [go_sem]
 iterate 2 ((try (refine drvZ Tryz.func150 ?_;simp only [go_sem]));((with_reducible and_intros)<;>try exact sd))
 refine RetOb.ofQ (fun _=>none) [] (.agg (St1.cells (asg w (.mk ek ev eks)))) [] ?_ ⟨rfl,rfl⟩ (by simp)
 simp [enumL,hOf,DM,DMs,CM,CMs,HpOK,LowOK,asg,e0,St1.cells,St1.cellsL,Ex.cells,Ex.cellsL]
theorem freshI (vs ar : List Int) (l : Int) (hv : vs.length ≤ 1048576) : DC Tryz.prog 154 [.c (.ptr 0 0), DI .i64 l] [some [.msl 1 1 0 vs.length, isI ar, .v (.slice none 0 0)], some (vs.map I64)]
 (fun r h=>r=DI .i64 vs.length∧h=[some [.msl 2 1 0 (vs.length+1),isI ar,.v (.slice none 0 0)],none,some ((vs++[l]).map I64)]):=by
 have hmx:=mx_eq
 refine dcZ Tryz.func154 ?_
 simp only [go_sem,flat_I']
 iterate 3 ((try (refine drvZ Tryz.func154 ?_;simp only [go_sem,flat_I']));((with_reducible and_intros)<;>try exact sd))
 refine RetOb.ofQ (fun j=>if j=2 then some 578 else some j) [] (DI .i64 vs.length) [some [.msl 2 1 0 (vs.length+1),isI ar,.v (.slice none 0 0)],none,some ((vs++[l]).map I64)] ?_ ⟨rfl,rfl⟩ (by simp)
 simp [enumL,hOf,DM,DMs,CM,CMs,HpOK,LowOK,upd,hpL,isI,I64,DI]
 refine CMs.kf (fun c hc=>?_)
 rcases List.mem_append.1 hc with h | h
 ·obtain ⟨a,_,rfl⟩:=List.mem_map.1 h;rfl
 ·rw [List.mem_singleton.1 h];rfl
theorem labelIO (vs ar : List Int) (hl : vs.length ≤ mx) (hl2 : ar.length ≤ mx) (h1 : lab3 vs) (h2 : lab3 ar) (d : Nat) (e : Ex) (hs : CtR.shape ⟨vs, ar, []⟩ d e = true) :
 DC Tryz.prog 91 [.agg [.msl 0 1 0 vs.length,isI ar,.v (.slice none 0 0)],.agg e.cells] [some (vs.map I64)] (fun r h=>r=DI .i64 (labN vs ar d e)∧h=[some (vs.map I64)]) :=
 DC.nilAgg [] [.agg e.cells] 11 [.msl 0 1 0 vs.length,isI ar] [] (DC.borrow [0] (by
  simp [DMs,DM,CMs,CM,isI,hpL,flat_I,kf,Pg.cells,St1.cellsL]
  exact CMs.kf (ex_kf e)) (labelI ⟨vs,ar,[]⟩ hl hl2 h1 h2 d e hs))
end Go.Proofs.YtmjkgjkkpaephaaGreat.CtD
