/- Contracts of functions of the program, one behind the other, as plain data: what each call returns and which blocks it leaves. -/
import Derived.Test.YtoakidkcppinpaaGreatDFacts
import Derived.Test.YtoakidkcppinpaaGreatDAi
import Derived.Test.YtoakidkcppinpaaGreatDAl
import Derived.Test.YtoakidkcppinpaaGreatDAm
import Derived.Test.YtoakidkcppinpaaGreatDAn
import Derived.Test.YtoakidkcppinpaaGreatDAo
import Derived.Test.YtoakidkcppinpaaGreatDAp
import Derived.Test.YtoakidkcppinpaaGreatDAq
import Derived.Test.YtoakidkcppinpaaGreatDAr
import Derived.Test.YtoakidkcppinpaaGreatDAs
import Derived.Test.YtoakidkcppinpaaGreatDAt
import Derived.Test.YtoakidkcppinpaaGreatDAu
import Derived.Test.YtoakidkcppinpaaGreatDAv
set_option linter.unusedVariables false
set_option linter.unusedSimpArgs false
set_option linter.unusedSectionVars false
set_option maxHeartbeats 16000000
set_option maxRecDepth 100000
namespace Go.Proofs.YtoakidkcppinpaaGreat.CtD
open Go Go.CT CtF CtR
variable [Yn]
open CtL (e0 cE vE rdE bE selE hitE asg sto maskE readN readS stoN stoS linK lab1 linE linB linO maskS linI linS linQ linP)
theorem FE_right {p:Pg} {e:Ex} (h:right p e=true):FE e:=CtL.FE_shape 5 e (right_shape h).1
theorem linB_snoc {f:List Int→St1→List Int × List St1} (a:List St1) (x:St1) (vs:List Int):linB f vs (a++[x])=((f (linB f vs a).1 x).1,(linB f vs a).2++(f (linB f vs a).1 x).2):=by
  rw [CtL.linB_app];simp [linB]
theorem blockS1 {p:Pg} (hla:p.arrays.length≤1048576) (h2:lab3 p.arrays) (d:Nat) (ih:∀ d',d=d' + 1→BlkH p d'):BlkH p d:=by
  have hmx:=mx_eq
  intro mk pc vs out l hp hok hl h1 hb1 hb2
  have hT:∀ i x,l[i]? = some x→linB (linS p.arrays d mk pc) vs (l.take (i+1))=((linS p.arrays d mk pc (linB (linS p.arrays d mk pc) vs (l.take i)).1 x).1,(linB (linS p.arrays d mk pc) vs (l.take i)).2++(linS p.arrays d mk pc (linB (linS p.arrays d mk pc) vs (l.take i)).1 x).2):=fun i x hx=>by
    rw [List.take_add_one,hx];exact linB_snoc _ _ _
  have hTs:∀ i,(linB (linS p.arrays d mk pc) vs (l.take i)).1.length≤vs.length+17 * tsum (tsize d) l i∧(linB (linS p.arrays d mk pc) vs (l.take i)).2.length≤70 * tsum (tsize d) l i:=fun i=>by
    have h:=linB_sz2 (p:=p) d mk pc (l.take i) vs (fun s hs=>hok s (List.mem_of_mem_take hs)) hl
    have h4:=len_le_lsize1 (linB (linS p.arrays d mk pc) vs (l.take i)).2
    have h5:=h.2 1
    exact ⟨h.1,by unfold tsum;unfold lsize at h5 h4;omega⟩
  have hT3:∀ i,lab3 (linB (linS p.arrays d mk pc) vs (l.take i)).1:=fun i=>linB_lab3 (fun vs s h=>linS_lab3 h2 d mk pc vs s hp h) _ _ h1
  have hTm:∀ i,p.vars.length≤(linB (linS p.arrays d mk pc) vs (l.take i)).1.length:=fun i =>
    Nat.le_trans hl (CtL.more_le (CtL.lin_more (p:=p) d mk pc vs _ (fun s hs=>hok s (List.mem_of_mem_take hs)) hl))
  have hsum:=fun i=>tsum_le (tsize d) l i
  have hlz:lsize d l=(l.map (tsize d)).sum:=rfl
  have hll:l.length≤1000000:=by
    have:∀ s ∈ l,1≤tsize d s:=fun s hs=>by
      cases d with
      | zero=>have:=hok s hs;simp [stmtOK] at this
      | succ d=>exact tsize_pos s
    have:=len_le_sum (tsize d) l this
    omega
  generalize hR:StR p.arrays out (linB (linS p.arrays d mk pc) vs l)=R
  obtain ⟨pv,ar,pb⟩:=p
  simp only at *
  have hmx:=mx_eq
  refine dcZ Tryz.func98 ?_
  simp only [go_sem]
  iterate 2 ((try (refine drvZ Tryz.func98 ?_;simp only [go_sem]));((with_reducible and_intros)<;>try exact sd))
  refine Go.loopQ (fun i : Nat => [(1, .c (.isl 11 (St1.cellsL l))), (2, DI .i64 mk), (3, DI .i64 pc), (4, .c (.ptr 1 0)), (8, .c (.ptr 65 0)), (9, DI .i64 i)])
    (fun i=>[(0,none),(1,some [isI (linB (linS ar d mk pc) vs (l.take i)).1,isI ar,.v (.slice none 0 0),.msl 2 11 0 (out++(linB (linS ar d mk pc) vs (l.take i)).2).length]),(2,some (stC (out++(linB (linS ar d mk pc) vs (l.take i)).2))),(65,some [.v (.slice none 0 0),.v (.slice none 0 0),.v (.slice none 0 0),.v (.slice none 0 0)])])
    8192 (fun i=>i≤l.length) (fun i=>l.length - i) ?_ 0 (fun j=>if j=2 then some 0 else some j) [] _ (Nat.zero_le _) ?_
  · intro i hi again
    rcases Nat.lt_or_ge i l.length with hlt | hge
    · obtain ⟨⟨k,t,⟨ik,iv,iks⟩,⟨vk,vv,vks⟩,c,b,e⟩,hx⟩:∃ x,l[i]? = some x:=⟨l[i],by simp [hlt]⟩
      have hso:=hok _ (List.mem_of_getElem? hx)
      obtain ⟨d,rfl⟩:∃ d',d=d' + 1:=by
        cases d with
        | zero=>simp [stmtOK] at hso
        | succ d=>exact ⟨d,rfl⟩
      have ih:=ih d rfl
      have hTi:=hT i _ hx
      have hsz:=hTs i
      have hsu:=hsum (i+1)
      rw [tsum_succ (tsize (d+1)) l i _ hx] at hsu
      have hl3i:=hT3 i
      have hlm:=hTm i
      clear hT hTs hT3 hTm hsum
      generalize linB (linS ar (d+1) mk pc) vs (l.take i)=T at *
      obtain ⟨vi,oi⟩:=T
      simp only at hTi hsz hl3i hlm
      obtain ⟨hh,hbo,heo⟩:=stmtOK_succ hso
      have hts:tsize (d+1) (.mk k t (.mk ik iv iks) (.mk vk vv vks) c b e)=1+lsize d b+lsize d e:=by simp [tsize,lsize]
      have hcl:=stC_len (out++oi)
      have hlen:(out++oi).length≤1000000:=by rw [List.length_append];omega
      rcases head_kind hh with ⟨hk,_,_,hrv⟩ | ⟨hk,_,_,hri,hat,hrv⟩ | ⟨hk,hrv⟩ | ⟨hk,_⟩
      · have hsv:=CtL.shape_mono (p:=⟨pv,ar,pb⟩) (q:=⟨vi,ar,[]⟩) hlm rfl 5 _ (right_shape hrv).1
        have hcnt:=(right_shape hrv).2
        have hex:=exprS ar pc hp h2 hla 5 _ vi (out++oi) hsv hl3i (by omega) (by omega)
        have hEs:=CtL.linE_sz (ar:=ar) (pc:=pc) 5 vi (.mk vk vv vks)
        rcases hk with hk | hk
        · have hls:linS ar (d+1) mk pc vi (.mk k t (.mk ik iv iks) (.mk vk vv vks) c b e)=((linE ar pc 5 vi (.mk vk vv vks)).1,(linE ar pc 5 vi (.mk vk vv vks)).2.1++[asg t (maskE mk (linE ar pc 5 vi (.mk vk vv vks)).2.2 (vE t))]):=by
            subst hk;rw [CtL.linS_o (by decide) (by decide),CtL.linO_1]
          rw [hls] at hTi
          clear hls
          generalize linE ar pc 5 vi (.mk vk vv vks)=E at *
          obtain ⟨vj,oj,xe⟩:=E
          simp only at hex hEs hTi
          have cv:=varS t
          have hm:=maskES mk xe (vE t)
          have ha:=asgS vj ar (out++oi++oj) t (maskE mk xe (vE t)) (by simp only [List.length_append] at hlen ⊢;omega)
          obtain ⟨xk,xv,xks⟩:=xe
          generalize hM:maskE mk (.mk xk xv xks) (vE t)=M at *
          obtain ⟨mk',mv',mks'⟩:=M
          simp only [vE,Ex.cells,Ex.cellsL,List.cons_append,List.nil_append,List.length_cons,List.length_nil] at cv hm
          refine drvL Tryz.func98 ?_
          simp only [go_sem,hx,hlt]
          iterate 5 ((try (refine drvZ Tryz.func98 ?_;simp only [go_sem,hx,hlt,hk]));((with_reducible and_intros)<;>try exact sd))
          iterate 2 ((try (refine drvZ Tryz.func98 ?_;simp only [go_sem,hx,hlt,hk]));((with_reducible and_intros)<;>try exact sd))
          refine XK.callG [2] hex ok121 (hhpG (by simp [HH,upd,hpL,renCs_stC])) (hbT ()) (fun d h' ⟨_,e⟩=>by subst e;simp) ?_
          rintro _ _ ⟨rfl,rfl⟩ _
          iterate 7 ((try (refine drvZ Tryz.func98 ?_;simp only [go_sem,renCs_stC]));((with_reducible and_intros)<;>try exact sd);(try first | refine XK.p cv ok124 ?_ | refine XK.gp cv ok124 ?_ | refine XK.p hm ok123 ?_ | refine XK.gp hm ok123 ?_))
          refine XK.callG [9664] ha ok122 (hhpG (by simp [HH,upd,hpL,renCs_stC])) (hbT ()) (fun d h' ⟨_,e⟩=>by subst e;simp) ?_ (fun _=>⟨by kernel_rfl,_,_,⟨rfl,rfl⟩,by simp⟩)
          rintro _ _ ⟨rfl,rfl⟩ _
          iterate 3 ((try (refine drvZ Tryz.func98 ?_;simp only [go_sem,renCs_stC]));((with_reducible and_intros)<;>try exact sd))
          refine again (i+1) (fun j=>if j=2 then some 11136 else some j) [] _ hlt (by omega) ?_
          rw [hTi]
          simp only [← List.append_assoc]
          simp only [go_sem,TmOK,DM,DMs,CM,CMs,forall_eq,exists_eq_left,Mq,HpOK,LowOK]
          simp
          exact CMs.kf (stC_kf _)
        · have hls:linS ar (d+1) mk pc vi (.mk k t (.mk ik iv iks) (.mk vk vv vks) c b e)=((linE ar pc 5 vi (.mk vk vv vks)).1,(linE ar pc 5 vi (.mk vk vv vks)).2.1++[.mk 5 t e0 (linE ar pc 5 vi (.mk vk vv vks)).2.2 0 [] []]):=by
            subst hk;rw [CtL.linS_o (by decide) (by decide),CtL.linO_5]
          rw [hls] at hTi
          clear hls
          generalize linE ar pc 5 vi (.mk vk vv vks)=E at *
          obtain ⟨vj,oj,⟨xk,xv,xks⟩⟩:=E
          simp only at hex hEs hTi
          have hcl2:=stC_len (out++oi++oj)
          have hlen2:(out++oi++oj).length≤1000000:=by simp only [List.length_append] at hlen ⊢;omega
          refine drvL Tryz.func98 ?_
          simp only [go_sem,hx,hlt]
          iterate 5 ((try (refine drvZ Tryz.func98 ?_;simp only [go_sem,hx,hlt,hk]));((with_reducible and_intros)<;>try exact sd))
          refine XK.callG [2] hex ok121 (hhpG (by simp [HH,upd,hpL,renCs_stC])) (hbT ()) (fun d h' ⟨_,e⟩=>by subst e;simp) ?_
          rintro _ _ ⟨rfl,rfl⟩ _
          iterate 5 ((try (refine drvZ Tryz.func98 ?_;simp only [go_sem,renCs_stC,hcl2]));((with_reducible and_intros)<;>try exact sd))
          ((try (refine drvZ Tryz.func98 ?_;simp only [go_sem]));((with_reducible and_intros)<;>try exact sd))
          refine again (i+1) (fun j=>if j=2 then some 10752 else some j) [] _ hlt (by omega) ?_
          rw [hTi]
          simp only [← List.append_assoc]
          simp only [go_sem,TmOK,DM,DMs,CM,CMs,forall_eq,exists_eq_left,Mq,HpOK,LowOK,stC_snoc,List.length_append]
          simp [asg,sto,e0,St1.cells,St1.cellsL,Ex.cells,Ex.cellsL]
          exact CMs.app (CMs.kf (stC_kf _)) (by simp [CMs,CM,St1.cells,St1.cellsL,Ex.cells,Ex.cellsL])
      · have hsv:=CtL.shape_mono (p:=⟨pv,ar,pb⟩) (q:=⟨vi,ar,[]⟩) hlm rfl 5 _ (right_shape hrv).1
        have hsi:=CtL.shape_mono (p:=⟨pv,ar,pb⟩) (q:=⟨vi,ar,[]⟩) hlm rfl 5 _ (right_shape hri).1
        have hcnt:=(right_shape hrv).2
        have hex:=exprS ar pc hp h2 hla 5 _ vi (out++oi) hsv hl3i (by omega) (by omega)
        have hEs:=CtL.linE_sz (ar:=ar) (pc:=pc) 5 vi (.mk vk vv vks)
        have hls:linS ar (d+1) mk pc vi (.mk k t (.mk ik iv iks) (.mk vk vv vks) c b e)=linO ar mk pc (linE ar pc 5 vi (.mk vk vv vks)) 2 t (.mk ik iv iks):=by
          subst hk;rw [CtL.linS_o (by decide) (by decide)]
        rw [hls,CtL.linO_2] at hTi
        clear hls
        have hEo:=CtL.linE_ok (ar:=ar) (q:=⟨[],ar,[]⟩) rfl pc 5 vi _ hsv
        have hEl:=linE_lab3 hp h2 5 vi (.mk vk vv vks) hl3i
        have hEm:=CtL.more_le hEo.more
        have hEsh:=hEo.shp
        have hsi2:=CtL.shape_mono (p:=⟨vi,ar,[]⟩) (q:=⟨(linE ar pc 5 vi (.mk vk vv vks)).1,ar,[]⟩) hEm rfl 5 _ hsi
        clear hEo
        generalize linE ar pc 5 vi (.mk vk vv vks)=E at *
        obtain ⟨vj,oj,xe⟩:=E
        simp only at hex hEs hTi hEl hEm hEsh hsi2
        have hlab:=labelL vj ar (by omega) (by omega) hEl h2 5 _ hsi2
        have hle:=labN_le hEl h2 5 (.mk ik iv iks)
        have hse:=labelSecretS (labN vj ar 5 (.mk ik iv iks)) hle
        have hlen2:(out++oi++oj).length≤1000000:=by simp only [List.length_append] at hlen ⊢;omega
        cases hsec:secL (labN vj ar 5 (.mk ik iv iks)) with
        | true =>
          rw [hsec] at hse
          rw [hsec,if_pos rfl] at hTi
          have hst:=storeS ar pc hp h2 hla mk k t (.mk ik iv iks) (.mk vk vv vks) xe c b e vj (out++oi++oj) hEsh hEl (by omega) (by omega)
          generalize labN vj ar 5 (.mk ik iv iks)=li at *
          obtain ⟨xk,xv,xks⟩:=xe
          rw [hk] at hst
          refine drvL Tryz.func98 ?_
          simp only [go_sem,hx,hlt]
          iterate 5 ((try (refine drvZ Tryz.func98 ?_;simp only [go_sem,hx,hlt,hk]));((with_reducible and_intros)<;>try exact sd))
          refine XK.callG [2] hex ok121 (hhpG (by simp [HH,upd,hpL,renCs_stC])) (hbT ()) (fun d h' ⟨_,e⟩=>by subst e;simp) ?_
          rintro _ _ ⟨rfl,rfl⟩ _
          iterate 7 ((try (refine drvZ Tryz.func98 ?_;simp only [go_sem,renCs_stC]));((with_reducible and_intros)<;>try exact sd);(try first | refine XK.p hlab ok126 ?_ | refine XK.gp hlab ok126 ?_ | refine XK.p hse ok125 ?_ | refine XK.gp hse ok125 ?_))
          refine XK.callG [9664] hst ok127 (hhpG (by simp [HH,upd,hpL,renCs_stC])) (hbT ()) (fun d h' ⟨_,e⟩=>by subst e;simp) ?_
          rintro _ _ ⟨rfl,rfl⟩ _
          iterate 3 ((try (refine drvZ Tryz.func98 ?_;simp only [go_sem,renCs_stC]));((with_reducible and_intros)<;>try exact sd))
          refine again (i+1) (fun j=>if j=2 then some 11328 else some j) [] _ hlt (by omega) ?_
          rw [hTi]
          simp only [← List.append_assoc]
          simp only [go_sem,TmOK,DM,DMs,CM,CMs,forall_eq,exists_eq_left,Mq,HpOK,LowOK]
          simp
          exact CMs.kf (stC_kf _)
        | false =>
          rw [hsec] at hse
          rw [hsec,if_neg (by simp)] at hTi
          have hcp:=copyE _ (FE_right hri)
          have hrd:=readS1 t (.mk ik iv iks)
          have hm:=maskES mk xe (rdE t (.mk ik iv iks))
          generalize labN vj ar 5 (.mk ik iv iks)=li at *
          obtain ⟨xk,xv,xks⟩:=xe
          generalize hM:maskE mk (.mk xk xv xks) (rdE t (.mk ik iv iks))=M at *
          obtain ⟨mk',mv',mks'⟩:=M
          have hcl2:=stC_len (out++oi++oj)
          simp only [rdE,Ex.cells,Ex.cellsL,List.cons_append,List.nil_append,List.length_cons,List.length_nil] at hrd hm
          refine drvL Tryz.func98 ?_
          simp only [go_sem,hx,hlt]
          iterate 5 ((try (refine drvZ Tryz.func98 ?_;simp only [go_sem,hx,hlt,hk]));((with_reducible and_intros)<;>try exact sd))
          refine XK.callG [2] hex ok121 (hhpG (by simp [HH,upd,hpL,renCs_stC])) (hbT ()) (fun d h' ⟨_,e⟩=>by subst e;simp) ?_
          rintro _ _ ⟨rfl,rfl⟩ _
          iterate 9 ((try (refine drvZ Tryz.func98 ?_;simp only [go_sem,renCs_stC,hcl2]));((with_reducible and_intros)<;>try exact sd);(try first | refine XK.p hlab ok126 ?_ | refine XK.gp hlab ok126 ?_ | refine XK.p hse ok125 ?_ | refine XK.gp hse ok125 ?_ | refine XK.p hcp ok128 ?_ | refine XK.gp hcp ok128 ?_ | refine XK.p hrd ok129 ?_ | refine XK.gp hrd ok129 ?_ | refine XK.p hm ok123 ?_ | refine XK.gp hm ok123 ?_))
          ((try (refine drvZ Tryz.func98 ?_;simp only [go_sem]));((with_reducible and_intros)<;>try exact sd))
          refine again (i+1) (fun j=>if j=2 then some 12160 else some j) [] _ hlt (by omega) ?_
          rw [hTi]
          simp only [← List.append_assoc]
          simp only [go_sem,TmOK,DM,DMs,CM,CMs,forall_eq,exists_eq_left,Mq,HpOK,LowOK,stC_snoc,List.length_append]
          simp [asg,sto,e0,St1.cells,St1.cellsL,Ex.cells,Ex.cellsL]
          exact CMs.app (CMs.kf (stC_kf _)) (by simp [CMs,CM,St1.cells,St1.cellsL,Ex.cells,Ex.cellsL])
      · have hif:=ifS ih hla h2 mk pc vi (out++oi) k t (.mk ik iv iks) (.mk vk vv vks) c b e hk hp hso hlm hl3i (by omega) (by rw [List.length_append];omega)
        unfold StR at hif
        rw [hk] at hif hTi
        refine drvL Tryz.func98 ?_
        simp only [go_sem,hx,hlt]
        iterate 5 ((try (refine drvZ Tryz.func98 ?_;simp only [go_sem,hx,hlt,hk]));((with_reducible and_intros)<;>try exact sd))
        refine XK.callG [2] hif ok119 (hhpG (by simp [HH,upd,hpL,renCs_stC])) (hbT ()) (fun d h' ⟨_,e⟩=>by subst e;simp) ?_
        rintro _ _ ⟨rfl,rfl⟩ _
        iterate 3 ((try (refine drvZ Tryz.func98 ?_;simp only [go_sem,renCs_stC]));((with_reducible and_intros)<;>try exact sd))
        refine again (i+1) (fun j=>if j=2 then some 9280 else some j) [] _ hlt (by omega) ?_
        rw [hTi]
        simp only [← List.append_assoc]
        simp only [go_sem,TmOK,DM,DMs,CM,CMs,forall_eq,exists_eq_left,Mq,HpOK,LowOK]
        simp
        exact CMs.kf (stC_kf _)
      · have hin:=innerS ih mk pc vi (out++oi) b hp hbo hlm hl3i (by omega) (by omega) hlen
        have hls:linS ar (d+1) mk pc vi (.mk k t (.mk ik iv iks) (.mk vk vv vks) c b e)=((linB (linS ar d mk pc) vi b).1,[.mk 4 0 e0 e0 c (linB (linS ar d mk pc) vi b).2 []]):=by
          subst hk;rw [CtL.linS_4]
        rw [hls] at hTi
        clear hls
        simp only at hin
        generalize linB (linS ar d mk pc) vi b=B at *
        obtain ⟨vj,oj⟩:=B
        simp only at hin hTi
        refine drvL Tryz.func98 ?_
        simp only [go_sem,hx,hlt]
        iterate 5 ((try (refine drvZ Tryz.func98 ?_;simp only [go_sem,hx,hlt,hk]));((with_reducible and_intros)<;>try exact sd))
        refine XK.callG [2] hin ok120 (hhpG (by simp [HH,upd,hpL,renCs_stC])) (hbT ()) (fun d h' ⟨_,e⟩=>by subst e;simp) ?_
        rintro _ _ ⟨rfl,rfl⟩ _
        iterate 4 ((try (refine drvZ Tryz.func98 ?_;simp only [go_sem,renCs_stC,hcl]));((with_reducible and_intros)<;>try exact sd))
        ((try (refine drvZ Tryz.func98 ?_;simp only [go_sem]));((with_reducible and_intros)<;>try exact sd))
        refine again (i+1) (fun j=>if j=2 then some 10496 else some j) [] _ hlt (by omega) ?_
        rw [hTi]
        simp only [← List.append_assoc]
        simp only [go_sem,TmOK,DM,DMs,CM,CMs,forall_eq,exists_eq_left,Mq,HpOK,LowOK,stC_snoc,List.length_append]
        simp [asg,sto,e0,St1.cells,St1.cellsL,Ex.cells,Ex.cellsL]
        exact CMs.app (CMs.kf (stC_kf _)) (by simp [CMs,CM,St1.cells,St1.cellsL,Ex.cells,Ex.cellsL])
    · have hn:¬ i<l.length:=by omega
      obtain rfl:i=l.length:=by omega
      clear again hT hTs hT3 hTm
      rw [List.take_length]
      generalize linB (linS ar d mk pc) vs l=T at *
      obtain ⟨vi,oi⟩:=T
      refine drvL Tryz.func98 ?_
      simp only [go_sem,hn]
      iterate 3 ((try (refine drvZ Tryz.func98 ?_;simp only [go_sem,hn]));((with_reducible and_intros)<;>try exact sd))
      exact RetOb.linS (R:=R) (out':=out++oi) (cs:=stC (out++oi)) (by rw [← hR];exact ⟨rfl,rfl⟩) (by simp [upd]) rfl rfl (by omega)
  · simp only [go_sem,TmOK,DM,DMs,CM,CMs,forall_eq,exists_eq_left,Mq,HpOK,LowOK]
    simp [linB]
    exact CMs.kf (stC_kf _)
theorem blockS {p : Pg} (hla : p.arrays.length ≤ 1048576) (h2 : lab3 p.arrays) : ∀ d, BlkH p d
  | 0=>blockS1 hla h2 0 fun _ h=>by omega
  | d+1=>blockS1 hla h2 (d+1) fun d' h=>by
    obtain rfl:d=d':=by omega
    exact blockS hla h2 d
open CtL (e0 cE vE rdE bE selE hitE asg sto maskE readN readS stoN stoS linK lab1 linE linB linO maskS linI linS linQ linP)
theorem RetOb.pg0 {R:D→List (Option (List C))→Prop} {hp:Hp} {x:Bool} (hR:R (.tup [.agg (Pg.cells ⟨[],[],[]⟩),DB x]) []):RetOb 0 R (.tup [.agg [.v (.slice none 0 0),.v (.slice none 0 0),.v (.slice none 0 0)],DB x]) hp:=by
  refine RetOb.ofQ (fun _=>none) [] (.tup [.agg (Pg.cells ⟨[],[],[]⟩),DB x]) [] ?_ hR (by simp)
  simp [enumL,DM,DMs,CM,CMs,HpOK,LowOK,Pg.cells,isI,St1.cellsL]
theorem RetOb.pgP {R:D→List (Option (List C))→Prop} {V A:List Int} {B:List St1} {hp:Hp} {x:Bool} (hR:R (.tup [.agg (Pg.cells ⟨V,A,B⟩),DB x]) []):RetOb 0 R (.tup [.agg [isI V,isI A,.isl 11 (St1.cellsL B)],DB x]) hp:=by
  refine RetOb.ofQ (fun _=>none) [] (.tup [.agg (Pg.cells ⟨V,A,B⟩),DB x]) [] ?_ hR (by simp)
  have g3:∀ x ∈ St1.cellsL B,∀ c ∈ x,kf c=true:=fun x hx=>by rw [St1.cellsL_eq] at hx;obtain ⟨e,_,rfl⟩:=List.mem_map.1 hx;exact st_kf e
  simp [enumL,DM,DMs,CM,CMs,HpOK,LowOK,Pg.cells,isI,kf]
theorem chk_bad {res:List Int→List Int→St1→Nat→Int} {p:Pg} (h:fineP res p=false):((chkR res p).1=0)=False:=eq_false fun e=>by
  rw [(chk_fine res p).1 e] at h;cases h
theorem linearizeS (p:Pg) (hok:progOK p=true):DC Tryz.prog 71 [.agg p.cells] [] (fun r h=>r = .tup [.agg (linP p).1.cells,DB (linP p).2]∧h=[]):=by
  have hmx:=mx_eq
  have hln:=prog_len hok
  have hbo:=body_of hok
  have hlab:=labs_of hok
  have hfs:=CtL.prog_FS hok
  have hcs:=checkFlowS p (by omega) (by omega) (by omega)
  have hcp:=copyP p (by omega) (by omega) (by omega) hfs.2
  have hqz:=CtL.linQ_sz hok
  have hqa:(linQ p).arrays=p.arrays:=rfl
  have hq3:lab3 (linQ p).vars:=linB_lab3 (fun vs s h=>linS_lab3 hlab.2 5 (-1) 0 vs s (by omega) h) _ _ hlab.1
  have hcq:=copyP (linQ p) (by omega) (by rw [hqa];omega) (by omega) hqz.2.2.2
  have hvq:=programValidS (linQ p) (by omega) (by rw [hqa];omega) (by have:=hqz.2.2.1 5;omega)
  have hbk:=blockS (p:=p) (by omega) hlab.2 5 (-1) 0 p.vars [] p.body (by omega) hbo.1 (by omega) hlab.1 (by omega) (by simp;omega)
  unfold StR at hbk
  have hBv:(linB (linS p.arrays 5 (-1) 0) p.vars p.body).1=(linQ p).vars:=rfl
  have hBb:(linB (linS p.arrays 5 (-1) 0) p.vars p.body).2=(linQ p).body:=rfl
  rw [hBv,hBb] at hbk
  have hbk:=DC.nilAggOwn (pre:=[isI p.vars,isI p.arrays,.v (.slice none 0 0)]) (h:=[]) hbk
  have hlp:linP p=if fineP flowR p=true∧progOK (linQ p)=true then (linQ p,true) else (⟨[],[],[]⟩,false):=rfl
  generalize hR:(fun (r:D) (h:List (Option (List C)))=>r = .tup [.agg (linP p).1.cells,DB (linP p).2]∧h=[])=R
  cases hf:fineP flowR p with
  | false =>
    have hbad:=chk_bad hf
    rw [hf,if_neg (by simp)] at hlp
    rw [hlp] at hR
    generalize chkR flowR p=x at *
    obtain ⟨code,at_⟩:=x
    simp only at hbad
    have hne:(code != 0)=true:=by simp [hbad]
    obtain ⟨vs,ar,bd⟩:=p
    refine dcZ Tryz.func71 ?_
    simp only [go_sem]
    iterate 5 ((try (refine drvZ Tryz.func71 ?_;simp only [go_sem,hne,hbad]));((with_reducible and_intros)<;>try exact sd);(try first | refine XK.p hcs ok73 ?_ | refine XK.gp hcs ok73 ?_))
    exact RetOb.pg0 (by rw [← hR];exact ⟨rfl,rfl⟩)
  | true =>
    rw [hf] at hlp
    have hgood:=(chk_fine flowR p).2 hf
    generalize chkR flowR p=x at *
    obtain ⟨code,at_⟩:=x
    simp only at hgood
    subst hgood
    generalize hlq:linQ p=q at *
    obtain ⟨vs,ar,bd⟩:=p
    obtain ⟨qv,qa,qb⟩:=q
    obtain rfl:qa=ar:=hqa
    refine dcZ Tryz.func71 ?_
    simp only [go_sem]
    iterate 5 ((try (refine drvZ Tryz.func71 ?_;simp only [go_sem,bne_self_eq_false]));((with_reducible and_intros)<;>try exact sd);(try first | refine XK.p hcs ok73 ?_ | refine XK.gp hcs ok73 ?_))
    refine XK.callG [] hcp ok97 (fun i' x h=>by simp at h) (hbT ()) (fun d h' ⟨_,e⟩=>by subst e;simp) ?_
    rintro _ _ ⟨rfl,rfl⟩ _
    iterate 1 ((try (refine drvZ Tryz.func71 ?_;simp only [go_sem,renCs_I,renCs_stC]));((with_reducible and_intros)<;>try exact sd))
    refine XK.subQ (r := some) (fz := [832, 833, 834]) (tl := [(2, .c (.ptr 64 0)), (3, DB false), (24, .agg [isI vs, isI qa, .v (.slice none 0 0), .v (.slice none 0 0)]), (25, .c (.ptr 896 2))])
      (hl:=[(64,some [.v (.slice none 0 0),.v (.slice none 0 0),.v (.slice none 0 0)]),(896,some (Pg.cells ⟨vs,qa,bd⟩))]) ?_ ?_
    · have g1:(St1.cellsL bd).flatten=stC bd:=by rw [St1.cellsL_eq];rfl
      have g2:∀ x ∈ St1.cellsL bd,x.length=11:=fun x hx=>by rw [St1.cellsL_eq] at hx;obtain ⟨e,_,rfl⟩:=List.mem_map.1 hx;exact St1.cells_len e
      have g3:∀ x ∈ St1.cellsL bd,∀ c ∈ x,kf c=true:=fun x hx=>by rw [St1.cellsL_eq] at hx;obtain ⟨e,_,rfl⟩:=List.mem_map.1 hx;exact st_kf e
      simp only [go_sem,TmOK,DM,DMs,CM,CMs,forall_eq,exists_eq_left,Mq,HpOK,LowOK]
      simp [flat_I,kf,g1,CMs,CM]
      exact ⟨g2,g3⟩
    iterate 1 ((try (refine drvZ Tryz.func71 ?_;simp only [go_sem]));((with_reducible and_intros)<;>try exact sd))
    refine XK.callG [] hbk ok98 (fun i' x h=>by simp at h) (hbT ()) (fun d h' ⟨_,e⟩=>by subst e;simp) ?_
    rintro _ _ ⟨rfl,rfl⟩ _
    refine XK.subQ (r := some) (fz := [1537]) (tl := [(2, .c (.ptr 64 0)), (3, DB false), (27, .agg [isI qv, isI qa, .v (.slice none 0 0), .isl 11 (St1.cellsL qb)])])
      (hl:=[(64,some [.v (.slice none 0 0),.v (.slice none 0 0),.v (.slice none 0 0)])]) ?_ ?_
    · have g1:(St1.cellsL qb).flatten=stC qb:=by rw [St1.cellsL_eq];rfl
      have g2:∀ x ∈ St1.cellsL qb,x.length=11:=fun x hx=>by rw [St1.cellsL_eq] at hx;obtain ⟨e,_,rfl⟩:=List.mem_map.1 hx;exact St1.cells_len e
      have g3:∀ x ∈ St1.cellsL qb,∀ c ∈ x,kf c=true:=fun x hx=>by rw [St1.cellsL_eq] at hx;obtain ⟨e,_,rfl⟩:=List.mem_map.1 hx;exact st_kf e
      simp only [go_sem,TmOK,DM,DMs,CM,CMs,forall_eq,exists_eq_left,Mq,HpOK,LowOK,renCs_stC]
      simp [flat_I,kf,g1,CMs,CM]
      exact ⟨g2,g3⟩
    iterate 4 ((try (refine drvZ Tryz.func71 ?_;simp only [go_sem]));((with_reducible and_intros)<;>try exact sd))
    refine XK.callG [] hcq ok97 (fun i' x h=>by simp at h) (hbT ()) (fun d h' ⟨_,e⟩=>by subst e;simp) ?_
    rintro _ _ ⟨rfl,rfl⟩ _
    iterate 1 ((try (refine drvZ Tryz.func71 ?_;simp only [go_sem,renCs_I,renCs_stC]));((with_reducible and_intros)<;>try exact sd))
    refine XK.subQ (r := some) (fz := [2304, 2305, 2306]) (tl := [(2, .c (.ptr 64 0)), (3, DB false), (8, .c (.ptr 2368 0)), (38, .agg (Pg.cells ⟨qv, qa, qb⟩))])
      (hl:=[(64,some [.v (.slice none 0 0),.v (.slice none 0 0),.v (.slice none 0 0)]),(2368,some (Pg.cells ⟨qv,qa,qb⟩))]) ?_ ?_
    · have g1:(St1.cellsL qb).flatten=stC qb:=by rw [St1.cellsL_eq];rfl
      have g2:∀ x ∈ St1.cellsL qb,x.length=11:=fun x hx=>by rw [St1.cellsL_eq] at hx;obtain ⟨e,_,rfl⟩:=List.mem_map.1 hx;exact St1.cells_len e
      have g3:∀ x ∈ St1.cellsL qb,∀ c ∈ x,kf c=true:=fun x hx=>by rw [St1.cellsL_eq] at hx;obtain ⟨e,_,rfl⟩:=List.mem_map.1 hx;exact st_kf e
      simp only [go_sem,TmOK,DM,DMs,CM,CMs,forall_eq,exists_eq_left,Mq,HpOK,LowOK]
      simp [flat_I,kf,g1,CMs,CM]
      exact ⟨g2,g3⟩
    cases hq:progOK ⟨qv,qa,qb⟩ with
    | false =>
      rw [hq,if_neg (by simp)] at hlp
      rw [hlp] at hR
      rw [hq] at hvq
      iterate 4 ((try (refine drvZ Tryz.func71 ?_;simp only [go_sem]));((with_reducible and_intros)<;>try exact sd);(try first | refine XK.p hvq ok70 ?_ | refine XK.gp hvq ok70 ?_))
      exact RetOb.pg0 (by rw [← hR];exact ⟨rfl,rfl⟩)
    | true =>
      rw [hq,if_pos ⟨rfl,rfl⟩] at hlp
      rw [hlp] at hR
      rw [hq] at hvq
      iterate 4 ((try (refine drvZ Tryz.func71 ?_;simp only [go_sem]));((with_reducible and_intros)<;>try exact sd);(try first | refine XK.p hvq ok70 ?_ | refine XK.gp hvq ok70 ?_))
      exact RetOb.pgP (by rw [← hR];exact ⟨rfl,rfl⟩)
end Go.Proofs.YtoakidkcppinpaaGreat.CtD
namespace Go.Proofs.YtoakidkcppinpaaGreat.CtL
variable [Go.CT.Yn]
open Go Go.CT CtF CtR
end Go.Proofs.YtoakidkcppinpaaGreat.CtL
namespace Go.Proofs.YtoakidkcppinpaaGreat.CtD
open Go Go.CT CtF CtR
variable [Yn]
open CtL (linQ linP)
def okR (bs:List Int) (n k:Nat) (r:D) (h:List (Option (List C))):Prop:=∃ p:Pg,r = .agg p.cells∧progOK p=true∧rdL bs n k h
theorem RetOb.okR {bs:List Int} {n k n':Nat} {R:D→List (Option (List C))→Prop} (hR:CtD.okR bs n k=R) (p:Pg) {hp:Hp} (h1:progOK p=true) (h2:n≤n') (h3:n'≤n+k) (h4:hp 0=some (some (rdr bs n'))):RetOb 1 R (.agg p.cells) hp:=by
  refine RetOb.keep1 (d := .agg p.cells) (cs:=rdr bs n') (by rw [← hR];exact ⟨p,rfl,h1,n',h2,h3,rfl⟩) h4 (rdr_kf _ _) ?_
  intro c hc
  simp only [Pg.cells,isI,List.mem_cons,List.not_mem_nil,or_false] at hc
  rcases hc with rfl | rfl | rfl<;>rfl
theorem l5Prog (bs:List Int) (n:Nat) (hb:Fits .u8 bs) (hl:bs.length≤2000) (hn:n≤260000000000):DC Tryz.prog 44 [.c (.ptr 0 0)] [some (rdr bs n)] (okR bs n 4000004):=by
  have hmx:=mx_eq
  have hty:=fun n h=>typed bs n hb hl h
  generalize hR:okR bs n 4000004=R
  refine dcZ Tryz.func44 ?_
  simp only [go_sem]
  iterate 2 ((try (refine drvZ Tryz.func44 ?_;simp only [go_sem]));((with_reducible and_intros)<;>try exact sd))
  refine Go.loopQ (fun x : Nat × Nat => [(0, .c (.ptr 0 0)), (2, .c (.ptr 1 0)), (3, DI .i64 x.1)]) (fun x => [(0, some (rdr bs x.2)), (1, some [.v (.slice none 0 0), .v (.slice none 0 0), .v (.slice none 0 0)])])
    4096 (fun x=>x.1≤3∧n≤x.2∧x.2≤n+x.1 * 1000001) (fun x=>3 - x.1) ?_ (0,n) some [] _ ⟨by simp,by simp,by simp⟩ ?_
  · rintro ⟨i,n1⟩ ⟨hi,hn1,hn2⟩ again
    simp only at hi hn1 hn2 ⊢
    rcases Nat.lt_or_ge i 3 with hlt | hge
    · have hz:((i:Int)<3)=True:=eq_true (by omega)
      refine drvL Tryz.func44 ?_
      simp only [go_sem,hz]
      iterate 2 ((try (refine drvZ Tryz.func44 ?_;simp only [go_sem,hz]));((with_reducible and_intros)<;>try exact sd))
      refine XK.callG [0] (hty n1 (by omega)) ok72 (hhp_one (by simp [upd,hOf,renCs_rdr])) (hbT ()) (fun d h' ⟨_,_,_,_,_,_,e⟩=>by subst e;simp) ?_
      rintro _ _ ⟨p,rfl,hp,n2,hn3,hn4,rfl⟩ _
      have hln:=prog_len hp.ok
      have hcs:=checkFlowS p (by omega) (by omega) (by have:=(body_of hp.ok).2;omega)
      have hok:=hp.ok
      generalize chkR flowR p=x at *
      obtain ⟨code,at_⟩:=x
      obtain ⟨vs,ar,bd⟩:=p
      by_cases hz0:code=0
      · subst hz0
        by_cases hbd:0<bd.length
        · have g1:((0:Int)<(bd.length:Int))=True:=eq_true (by omega)
          iterate 7 ((try (refine drvZ Tryz.func44 ?_;simp only [go_sem,renCs_rdr,g1]));((with_reducible and_intros)<;>try exact sd);(try first | refine XK.p hcs ok73 ?_ | refine XK.gp hcs ok73 ?_))
          exact RetOb.okR hR ⟨vs,ar,bd⟩ hok (n':=n2) (by omega) (by omega) rfl
        · have g1:((0:Int)<(bd.length:Int))=False:=eq_false (by omega)
          iterate 7 ((try (refine drvZ Tryz.func44 ?_;simp only [go_sem,renCs_rdr,g1]));((with_reducible and_intros)<;>try exact sd);(try first | refine XK.p hcs ok73 ?_ | refine XK.gp hcs ok73 ?_))
          refine again (i+1,n2) some [] _ ⟨by simp only;omega,by simp only;omega,by simp only;omega⟩ (by simp only;omega) ?_
          simp only [go_sem,TmOK,DM,DMs,CM,CMs,forall_eq,exists_eq_left,Mq,HpOK,LowOK]
          simp
          exact CMs.kf (rdr_kf _ _)
      · have g2:(code=0)=False:=eq_false hz0
        have g3:(code == 0)=false:=by simp [hz0]
        iterate 7 ((try (refine drvZ Tryz.func44 ?_;simp only [go_sem,renCs_rdr,g2,g3]));((with_reducible and_intros)<;>try exact sd);(try first | refine XK.p hcs ok73 ?_ | refine XK.gp hcs ok73 ?_))
        refine again (i+1,n2) some [] _ ⟨by simp only;omega,by simp only;omega,by simp only;omega⟩ (by simp only;omega) ?_
        simp only [go_sem,TmOK,DM,DMs,CM,CMs,forall_eq,exists_eq_left,Mq,HpOK,LowOK]
        simp
        exact CMs.kf (rdr_kf _ _)
    · have hz:((i:Int)<3)=False:=eq_false (by omega)
      obtain rfl:i=3:=by omega
      refine drvL Tryz.func44 ?_
      simp only [go_sem,hz]
      iterate 2 ((try (refine drvZ Tryz.func44 ?_;simp only [go_sem,hz]));((with_reducible and_intros)<;>try exact sd))
      refine XK.callG [0] (hty n1 (by omega)) ok72 (hhp_one (by simp [upd,hOf,renCs_rdr])) (hbT ()) (fun d h' ⟨_,_,_,_,_,_,e⟩=>by subst e;simp) ?_
      rintro _ _ ⟨p,rfl,hp,n2,hn3,hn4,rfl⟩ _
      have hok:=hp.ok
      obtain ⟨vs,ar,bd⟩:=p
      iterate 3 ((try (refine drvZ Tryz.func44 ?_;simp only [go_sem,renCs_rdr]));((with_reducible and_intros)<;>try exact sd))
      exact RetOb.okR hR ⟨vs,ar,bd⟩ hok (n':=n2) (by omega) (by omega) rfl
  · simp only [go_sem,TmOK,DM,DMs,CM,CMs,forall_eq,exists_eq_left,Mq,HpOK,LowOK]
    simp
    exact CMs.kf (rdr_kf _ _)
end Go.Proofs.YtoakidkcppinpaaGreat.CtD
namespace Go.Proofs.YtoakidkcppinpaaGreat.CtL
variable [Go.CT.Yn]
open Go Go.CT CtF CtR
open Go Go.CT CtF CtR
structure In where
  op:Int
  a:Int
  b:Int
  c:Int
  d:Int
structure Cd where
  vars:List Int
  arrays:List Int
  list:List In
structure Mc where
  pc:Nat
  regs:List Int
  mem:Mm
def halt:In:=⟨13,0,0,0,0⟩
def stepM (x:In) (s:Mc):Mc × List Ev :=
  if x.op=1 then (⟨s.pc+1,s.regs.set x.a.toNat x.b,s.mem⟩,[⟨5,s.pc⟩])
  else if x.op=2 then (⟨s.pc+1,s.regs.set x.a.toNat (nth s.mem.vals x.b),s.mem⟩,[⟨5,s.pc⟩])
  else if x.op=3 then (⟨s.pc+1,s.regs,setV s.mem x.a (nth s.regs x.b)⟩,[⟨5,s.pc⟩])
  else if x.op=4 then (⟨s.pc+1,s.regs.set x.a.toNat (nth (arrAt s.mem x.b) (nth s.regs x.c % 4)),s.mem⟩,[⟨5,s.pc⟩,⟨2,x.b * 4+nth s.regs x.c % 4⟩])
  else if x.op=5 then (⟨s.pc+1,s.regs,setA s.mem x.a (nth s.regs x.b % 4) (nth s.regs x.c)⟩,[⟨5,s.pc⟩,⟨3,x.a * 4+nth s.regs x.b % 4⟩])
  else if x.op=6 then (⟨s.pc+1,s.regs.set x.a.toNat (bin x.b (nth s.regs x.c) (nth s.regs x.d)),s.mem⟩,[⟨5,s.pc⟩])
  else if x.op=7 then (⟨s.pc+1,s.regs.set x.a.toNat (if nth s.regs x.b ≠ 0 then nth s.regs x.c else nth s.regs x.d),s.mem⟩,[⟨5,s.pc⟩])
  else if x.op=8 then (⟨x.a.toNat,s.regs,s.mem⟩,[⟨5,s.pc⟩])
  else if x.op=9 then (⟨if nth s.regs x.a=0 then x.b.toNat else s.pc+1,s.regs,s.mem⟩,[⟨5,s.pc⟩])
  else if x.op=10 then (⟨if (nth s.regs x.a+255) % 256 ≠ 0 then x.b.toNat else s.pc+1,s.regs.set x.a.toNat ((nth s.regs x.a+255) % 256),s.mem⟩,[⟨5,s.pc⟩])
  else if x.op=11 then (⟨s.pc+1,s.regs,s.mem⟩,[⟨5,s.pc⟩,⟨4,nth s.regs x.a⟩])
  else if x.op=13 then (s,[⟨5,s.pc⟩])
  else (⟨s.pc+1,s.regs,s.mem⟩,[⟨5,s.pc⟩])
def atC (C:List In) (i:Nat):In:=C.getD i halt
def runM (C : List In) : Nat → Mc → Option (Mm × List Ev)
  | 0,_=>none
  | n + 1, s => if (atC C s.pc).op = 13 then some ((stepM (atC C s.pc) s).1.mem, (stepM (atC C s.pc) s).2)
    else (runM C n (stepM (atC C s.pc) s).1).map fun q=>(q.1,(stepM (atC C s.pc) s).2++q.2)
def stp (X:List Ev):Nat:=X.countP fun e=>e.kind == 5
def At (C:List In) (b:Nat) (L:List In):Prop:=∃ pre post,C=pre++L++post∧pre.length=b
theorem At.left {C:List In} {b:Nat} {L R:List In} (h:At C b (L++R)):At C b L:=by
  obtain ⟨pre,post,rfl,hl⟩:=h
  exact ⟨pre,R++post,by simp,hl⟩
theorem At.right {C:List In} {b n:Nat} {L R:List In} (h:At C b (L++R)) (hn:L.length=n):At C (b+n) R:=by
  obtain ⟨pre,post,rfl,hl⟩:=h
  exact ⟨pre++L,post,by simp,by simp [hl,hn]⟩
theorem At.head {C:List In} {b:Nat} {x:In} {R:List In} (h:At C b (x :: R)):C[b]? = some x:=by
  obtain ⟨pre,post,rfl,hl⟩:=h
  subst hl;simp
def seqE (f : Ex → Nat → List In) : Nat → List Ex → List In
  | _,[]=>[]
  | n,e :: r=>f e n++seqE f (n+1) r
def lastE (k v:Int) (n:Nat):In :=
  if k=3 then ⟨4,n,v,n,0⟩ else if k=11 then ⟨7,n,n,(n:Int)+1,(n:Int)+2⟩ else ⟨6,n,k,n,(n:Int)+1⟩
def kE : Nat → Ex → Nat → List In
  | 0,_,_=>[]
  | d+1,.mk k v ks,n=>if k=1 then [⟨1,n,v,0,0⟩] else if k=2 then [⟨2,n,v,0,0⟩] else seqE (kE d) n ks++[lastE k v n]
theorem seqE_snoc (f : Ex → Nat → List In) : ∀ (l : List Ex) (n : Nat) (e : Ex), seqE f n (l ++ [e]) = seqE f n l ++ f e (n + l.length)
  | [],n,e=>by simp [seqE]
  | a :: r,n,e=>by
    simp only [List.cons_append,seqE,seqE_snoc f r,List.append_assoc,List.length_cons]
    rw [show n+1+r.length=n+(r.length+1) by omega]
theorem seqE_len {p : Pg} {d : Nat} : ∀ (l : List Ex) (n : Nat), (∀ e ∈ l, ∀ n, (kE d e n).length = cnt d e) → (seqE (kE d) n l).length = (l.map (cnt d)).sum
  | [],n,_=>rfl
  | a :: r,n,h=>by
    simp only [seqE,List.length_append,List.map_cons,List.sum_cons]
    rw [h a (by simp),seqE_len (p:=p) r (n+1) fun e he=>h e (by simp [he])]
theorem kE_len {p : Pg} : ∀ (d : Nat) (e : Ex), CtR.shape p d e = true → ∀ n, (kE d e n).length = cnt d e
  | 0,_,h,_=>by simp [CtR.shape] at h
  | d+1,.mk k v ks,h,n=>by
    obtain ⟨g1,g2,g3⟩:=shape_succ h
    rcases shape_form h with ⟨hk,rfl⟩ | ⟨a,rfl,rfl,ha,hat⟩ | ⟨a,b,k4,k10,rfl,ha,hb⟩ | ⟨a,b,c,rfl,rfl,ha,hb,hc⟩
    · rcases hk with ⟨rfl,_⟩ | rfl<;>simp [kE,cnt]
    all_goals
      rw [kE,if_neg (by omega),if_neg (by omega),List.length_append,seqE_len (p:=p) _ _ fun e he n=>kE_len d e (g2 e he) n]
      simp only [cnt,List.length_singleton];omega
open Go Go.CT CtF CtR
def lenS : Nat → St1 → Nat
  | 0,_=>0
  | d + 1, .mk k t ix v c b e => if k = 4 then (b.map (lenS d)).sum + 2 else if k = 1 then cnt 5 v + 1 else if k = 5 then cnt 5 v + 2
      else if k=2 then cnt 5 v+cnt 5 ix+1 else cnt 5 v+(b.map (lenS d)).sum+(e.map (lenS d)).sum+2
def lenL (d:Nat) (l:List St1):Nat:=(l.map (lenS d)).sum
def seqS (f : Nat → St1 → List In) (len : St1 → Nat) : Nat → List St1 → List In
  | _,[]=>[]
  | b,s :: r=>f b s++seqS f len (b+len s) r
def cS : Nat → Nat → Nat → St1 → List In
  | 0,_,_,_=>[]
  | d+1,dep,b,.mk k t ix v c bd el =>
    if k=4 then ⟨1,9+dep,c,0,0⟩ :: (seqS (cS d (dep+1)) (lenS d) (b+1) bd++[⟨10,9+dep,(b+1:Nat),0,0⟩])
    else if k=1 then kE 5 v 0++[⟨3,t,0,0,0⟩]
    else if k=5 then kE 5 v 0++[⟨11,0,0,0,0⟩,⟨3,t,0,0,0⟩]
    else if k=2 then kE 5 v 0++(kE 5 ix 1++[⟨5,t,1,0,0⟩])
    else kE 5 v 0 ++ (⟨9, 0, (b + cnt 5 v + lenL d bd + 2 : Nat), 0, 0⟩ :: (seqS (cS d (dep + 1)) (lenS d) (b + cnt 5 v + 1) bd ++
      (⟨8,(b+cnt 5 v+lenL d bd+lenL d el+2:Nat),0,0,0⟩ :: seqS (cS d (dep+1)) (lenS d) (b+cnt 5 v+lenL d bd+2) el)))
def cL (d dep b:Nat) (l:List St1):List In:=seqS (cS d dep) (lenS d) b l
theorem seqS_snoc (f : Nat → St1 → List In) (len : St1 → Nat) : ∀ (l : List St1) (b : Nat) (s : St1), seqS f len b (l ++ [s]) = seqS f len b l ++ f (b + (l.map len).sum) s
  | [],b,s=>by simp [seqS]
  | a :: r,b,s=>by
    simp only [List.cons_append,seqS,seqS_snoc f len r,List.append_assoc,List.map_cons,List.sum_cons,Nat.add_assoc]
theorem seqS_len {f : Nat → St1 → List In} {len : St1 → Nat} : ∀ (l : List St1) (b : Nat), (∀ s ∈ l, ∀ b, (f b s).length = len s) → (seqS f len b l).length = (l.map len).sum
  | [],b,_=>rfl
  | a :: r,b,h=>by
    simp only [seqS,List.length_append,List.map_cons,List.sum_cons]
    rw [h a (by simp),seqS_len r _ fun s hs=>h s (by simp [hs])]
theorem cS_len {p : Pg} : ∀ (d : Nat) (s : St1), stmtOK p d s = true → ∀ dep b, (cS d dep b s).length = lenS d s
  | 0,_,h,_,_=>by simp [stmtOK] at h
  | d+1,.mk k t ix v c bd el,h,dep,b=>by
    obtain ⟨hh,hb,he⟩:=stmtOK_succ h
    have eb:=fun b=>seqS_len (f:=cS d (dep+1)) bd b fun s hs b=>cS_len d s (hb s hs) (dep+1) b
    have ee:=fun b=>seqS_len (f:=cS d (dep+1)) el b fun s hs b=>cS_len d s (he s hs) (dep+1) b
    rcases head_kind hh with ⟨hk,ht0,ht1,hr⟩ | ⟨rfl,ht0,ht1,hri,hai,hr⟩ | ⟨rfl,hr⟩ | ⟨rfl,hc1,hc3⟩
    · have:=kE_len 5 v (right_shape hr).1 0
      rcases hk with rfl | rfl<;>simp [cS,lenS,this]
    · have h1:=kE_len 5 v (right_shape hr).1 0
      have h2:=kE_len 5 ix (right_shape hri).1 1
      simp [cS,lenS,h1,h2];omega
    · have h1:=kE_len 5 v (right_shape hr).1 0
      simp [cS,lenS,h1,eb,ee];omega
    · simp [cS,lenS,eb]
theorem cL_len {p:Pg} {d dep b:Nat} {l:List St1} (h:∀ s ∈ l,stmtOK p d s=true):(cL d dep b l).length=lenL d l:=seqS_len l b fun s hs b=>cS_len d s (h s hs) dep b
open Go Go.CT CtF CtR
open Go Go.CT CtF CtR
def kindsOf (op:Int):List Nat :=
  if op=1 then [1,2,0,0] else if op=2 then [1,3,0,0] else if op=3 then [3,1,0,0] else if op=4 then [1,4,1,0] else if op=5 then [4,1,1,0]
  else if op=6 then [1,5,1,1] else if op=7 then [1,1,1,1] else if op=8 then [6,0,0,0] else if op=9 then [1,6,0,0] else if op=10 then [1,6,0,0]
  else if op=11 then [1,0,0,0] else [0,0,0,0]
def topOf (nv na nl:Nat) (k:Nat):Int:=if k=0 then 0 else if k=1 then 13 else if k=2 then 255 else if k=3 then (nv:Int) - 1 else if k=4 then (na:Int) - 1 else if k=5 then 10 else (nl:Int) - 1
def fOK (nv na nl:Nat) (k:Nat) (n:Int):Bool:=decide ((if k=5 then 4 else 0)≤n) && decide (n≤topOf nv na nl k)
def inOK (nv na nl:Nat) (x:In):Bool:=decide (1≤x.op) && decide (x.op≤13) && fOK nv na nl ((kindsOf x.op).getD 0 0) x.a && fOK nv na nl ((kindsOf x.op).getD 1 0) x.b && fOK nv na nl ((kindsOf x.op).getD 2 0) x.c && fOK nv na nl ((kindsOf x.op).getD 3 0) x.d
def endOK (l:List In):Bool:=(atC l (l.length - 1)).op == 13 || (atC l (l.length - 1)).op == 8
def codeOK (c:Cd):Bool:=headsOK c.vars c.arrays && decide (1≤(c.list.length:Int)) && decide ((c.list.length:Int)≤400) && c.list.all (inOK c.vars.length c.arrays.length c.list.length) && endOK c.list
def runC (c:Cd) (m:Mm):Mm × List Ev × Bool :=
  if codeOK c && memOK c.vars c.arrays m then (match runM c.list 20000 ⟨0,List.replicate 14 0,m⟩ with | some q=>(q.1,q.2,true) | none=>(⟨[],[]⟩,[],false)) else (⟨[],[]⟩,[],false)
def compL (p:Pg):List In:=cL 5 0 0 p.body++[halt]
def compP (p:Pg):Cd × Bool:=if progOK p=true∧lenL 5 p.body+1≤400 then (⟨p.vars,p.arrays,compL p⟩,true) else (⟨[],[],[]⟩,false)
theorem compL_len {p:Pg} (h:progOK p=true):(compL p).length=lenL 5 p.body+1:=by
  rw [compL,List.length_append,cL_len (body_of h).1];rfl
end Go.Proofs.YtoakidkcppinpaaGreat.CtL
namespace Go.Proofs.YtoakidkcppinpaaGreat.CtD
open Go Go.CT CtF CtR
variable [Yn]
open CtL (In Cd kE cL cS seqE lenS lenL)
def inX (x:In):List C:=[I64 x.op,I64 x.a,I64 x.b,I64 x.c,I64 x.d]
def inC (l:List In):List C:=(l.map inX).flatten
theorem inC_len (l:List In):(inC l).length=l.length * 5:=by
  unfold inC
  induction l with
  | nil=>rfl
  | cons a r ih=>simp only [List.map_cons,List.flatten_cons,List.length_append,ih,inX,List.length_cons,List.length_nil];omega
theorem inC_app (a b:List In):inC (a++b)=inC a++inC b:=by simp [inC]
theorem inC_one (x:In):inC [x]=inX x:=by simp [inC]
theorem inC_kf (l:List In):∀ c ∈ inC l,kf c=true:=by
  unfold inC
  intro c hc
  obtain ⟨x,hx,hc⟩:=List.mem_flatten.1 hc
  obtain ⟨e,_,rfl⟩:=List.mem_map.1 hx
  simp only [inX,List.mem_cons,List.not_mem_nil,or_false] at hc
  rcases hc with rfl | rfl | rfl | rfl | rfl<;>rfl
theorem renCs_in (r:Nat→Nat) (l:List In):renCs r (inC l)=inC l:=by
  unfold inC
  induction l with
  | nil=>rfl
  | cons a t ih=>simp only [List.map_cons,List.flatten_cons,inX,List.cons_append,List.nil_append,renCs,renC,ih]
theorem CMs_in {hT hS:Hp} {r:Nat→Option Nat} {fz:List Nat} (l:List In):CMs hT r hS fz (inC l) (inC l)=True:=eq_true (CMs.kf (inC_kf l))
abbrev CsD (k j:Nat) (L:List In) (O:List Int) (a:Int):D := .agg [.msl k 5 0 L.length,.msl j 1 0 O.length,I64 a]
abbrev CsH (L:List In) (O:List Int):List (Option (List C)):=[some (inC L),some (O.map I64)]
abbrev CsR (L:List In) (O:List Int):List (Option (List C)):=[none,none,some (inC L),some (O.map I64)]
theorem RetOb.csA {R : D → List (Option (List C)) → Prop} {L : List In} {O : List Int} {a : Int} {hp : Hp} {ka kb n1 n2 : Nat} {c1 c2 : List C} (hR : R (CsD 2 3 L O a) (CsR L O)) (ha : hp ka = some (some c1)) (hb : hp kb = some (some c2))
    (e1:c1=inC L) (e2:c2=O.map I64) (e3:n1=L.length) (e4:n2=O.length) (nab:ka ≠ kb) (h0:hp 0 ≠ none) (h1:hp 1 ≠ none):RetOb 2 R (.agg [.msl ka 5 0 n1,.msl kb 1 0 n2,I64 a]) hp:=by
  subst e1 e2 e3 e4
  refine RetOb.ofQ (fun j=>if j=2 then some ka else if j=3 then some kb else some j) [] (CsD 2 3 L O a) (CsR L O) ?_ hR (by simp [CsR])
  simp [CsR,CsD,enumL,hOf,DM,DMs,CM,CMs,HpOK,LowOK,upd,ha,hb,nab,CMs_I,CMs_in,h0,h1]
theorem csAdd (L : List In) (O : List Int) (a st op xa xb xc xd : Int) (hL : L.length ≤ 100000) (hO : O.length ≤ 100000) : DC Tryz.prog 93 [CsD 0 1 L O a, DI .i64 st, .agg [I64 op, I64 xa, I64 xb, I64 xc, I64 xd]] (CsH L O)
    (fun r h=>r=CsD 2 3 (L++[⟨op,xa,xb,xc,xd⟩]) (O++[st]) a∧h=CsR (L++[⟨op,xa,xb,xc,xd⟩]) (O++[st])):=by
  have hmx:=mx_eq
  have hcl:=inC_len L
  generalize hR:(fun (r:D) (h:List (Option (List C)))=>r=CsD 2 3 (L++[⟨op,xa,xb,xc,xd⟩]) (O++[st]) a∧h=CsR (L++[⟨op,xa,xb,xc,xd⟩]) (O++[st]))=R
  refine dcZ Tryz.func93 ?_
  simp only [go_sem,hcl]
  iterate 5 ((try (refine drvZ Tryz.func93 ?_;simp only [go_sem,hcl,List.length_map]));((with_reducible and_intros)<;>try exact sd))
  exact RetOb.csA (L:=L++[⟨op,xa,xb,xc,xd⟩]) (O:=O++[st]) (by rw [← hR];exact ⟨rfl,rfl⟩) rfl rfl (by simp [inC_app,inC_one,inX]) (by simp) (by simp) (by simp) (by decide) (by simp [upd,hpL]) (by simp [upd,hpL])
end Go.Proofs.YtoakidkcppinpaaGreat.CtD
