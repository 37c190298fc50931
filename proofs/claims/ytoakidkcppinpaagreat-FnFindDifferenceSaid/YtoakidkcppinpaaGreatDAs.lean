/- Contracts of functions of the program, one behind the other, as plain data: what each call returns and which blocks it leaves. -/
import Derived.Test.YtoakidkcppinpaaGreatDFacts
import Derived.Test.YtoakidkcppinpaaGreatDAi
import Derived.Test.YtoakidkcppinpaaGreatDAl
import Derived.Test.YtoakidkcppinpaaGreatDAm
import Derived.Test.YtoakidkcppinpaaGreatDAn
import Derived.Test.YtoakidkcppinpaaGreatDAp
import Derived.Test.YtoakidkcppinpaaGreatDAq
import Derived.Test.YtoakidkcppinpaaGreatDAr
import Derived.Test.YtoakidkcppinpaaGreatDAo
set_option linter.unusedVariables false
set_option linter.unusedSimpArgs false
set_option linter.unusedSectionVars false
set_option maxHeartbeats 16000000
set_option maxRecDepth 100000
namespace Go.Proofs.YtoakidkcppinpaaGreat.CtR
open Go Go.CT CtF
variable [Yn]
theorem l2Ints (xs ys:List Int) (hl:xs.length≤mx):DC Tryz.prog 52 [ints xs,ints ys] [] (fun r h=>r=DB (decide (xs=ys))∧h=[]):=by
  have hmx:=mx_eq
  have ret:∀ (b:Bool) (hp:Hp),b=decide (xs=ys)→RetOb 0 (fun r h=>r=DB (decide (xs=ys))∧h=[]) (DB b) hp:=fun b hp h=>RetOb.plain (d:=DB _) ⟨by rw [h],rfl⟩ rfl
  by_cases hlen:xs.length=ys.length
  · have hb:((xs.length:Int) != ys.length)=false:=by simp [hlen]
    have he:((xs.length:Int)=ys.length)=True:=eq_true (by omega)
    refine dc_of_go Tryz.func52 rfl (by simp) ?_
    refine drv_sound (n:=100) (rs:=_) Tryz.func52 mo rfl none _ _ ?_
    simp only [go_sem,ints,hb,he]
    refine Go.loopL (fun i:Nat=>[(0,ints xs),(1,ints ys),(5,DI .i64 i)]) (fun _=>[]) 1024 (fun i=>i≤xs.length∧decide (xs=ys)=decide (xs.drop i=ys.drop i)) (fun i=>xs.length - i) ?_ 0 some [] _ ⟨Nat.zero_le _,rfl⟩ ?_
    · intro i hi again
      refine drv_sound (n:=100) (rs:=_) Tryz.func52 mo rfl none _ _ ?_
      rcases Nat.lt_or_ge i xs.length with hlt | hge
      · obtain ⟨x,hx⟩:∃ x,xs[i]? = some x:=⟨xs[i],by simp [hlt]⟩
        obtain ⟨y,hy⟩:∃ y,ys[i]? = some y:=⟨ys[i]'(by omega),by simp⟩
        have hI:=hi.2
        obtain ⟨_,ex⟩:=List.getElem?_eq_some_iff.1 hx
        obtain ⟨hyl,ey⟩:=List.getElem?_eq_some_iff.1 hy
        rw [List.drop_eq_getElem_cons hlt,List.drop_eq_getElem_cons hyl,ex,ey] at hI
        simp only [go_sem,ints,hx,hy,hlt]
        (with_reducible and_intros)<;>try exact sd
        · intro hne;exact ret _ _ (by rw [hI];simp [hne])
        · intro heq;exact ⟨by simp only [InK];omega,again (i+1) some [] _ ⟨by omega,by rw [hI];simp [heq]⟩ (by omega) (Mt.slots (by
            simp only [go_sem,TmOK,DM,DMs,CM,CMs,forall_eq,exists_eq_left,ints]))⟩
      · have hn:¬ i<xs.length:=by omega
        simp only [go_sem,ints,hn]
        refine ret _ _ ?_
        rw [hi.2,List.drop_of_length_le hge,List.drop_of_length_le (by omega)];rfl
    · refine Mt.slots ?_
      simp only [go_sem,TmOK,DM,DMs,CM,CMs,forall_eq,exists_eq_left,ints]
  · have hb:((xs.length:Int) != ys.length)=true:=by simp;omega
    have he:((xs.length:Int)=ys.length)=False:=eq_false (by omega)
    refine dc_of_go Tryz.func52 rfl (by simp) ?_
    refine drv_sound (n:=100) (rs:=_) Tryz.func52 mo rfl none _ _ ?_
    simp only [go_sem,ints,hb,he]
    refine ret _ _ ?_
    symm;rw [decide_eq_false_iff_not];intro h;exact hlen (by rw [h])
theorem exprSameS (e : Ex) (hl : e.kids.length ≤ 1000) (hk : ∀ x ∈ e.kids, DC Tryz.prog 161 [.agg x.cells, .agg x.cells] [] (fun r h => r = DB true ∧ h = [])) :
    DC Tryz.prog 161 [.agg e.cells,.agg e.cells] [] (fun r h=>r=DB true∧h=[]):=by
  have hmx:=mx_eq
  obtain ⟨k,v,ks⟩:=e
  have hl:ks.length≤1000:=hl
  simp only [Ex.kids] at hk
  have ret:∀ (hp:Hp),RetOb 0 (fun r h=>r=DB true∧h=[]) (DB true) hp:=fun hp=>RetOb.plain (d:=DB _) ⟨rfl,rfl⟩ rfl
  generalize hR:(fun (r:D) (h:List (Option (List C)))=>r=DB true∧h=[])=R at ret ⊢
  refine dcZ Tryz.func161 ?_
  simp only [go_sem]
  iterate 4 ((try (refine drvZ Tryz.func161 ?_;simp only [go_sem,bne_self_eq_false]));((with_reducible and_intros)<;>try exact sd))
  refine Go.loopQ (fun i:Nat=>[(2,.c (.ptr 0 0)),(3,.c (.ptr 64 0)),(5,DI .i64 i)]) (fun i=>[(0,some (Ex.cells (.mk k v ks))),(64,some (Ex.cells (.mk k v ks)))]) 4096 (fun i=>i≤ks.length) (fun i=>ks.length - i) ?_ 0 some [] _ (Nat.zero_le _) ?_
  · intro i hi again
    rcases Nat.lt_or_ge i ks.length with hlt | hge
    · obtain ⟨⟨k',v',s'⟩,hx⟩:∃ x,ks[i]? = some x:=⟨ks[i],by simp [hlt]⟩
      have hf:=hk _ (List.mem_of_getElem? hx)
      rw [← hR] at ret again ⊢
      refine drvL Tryz.func161 ?_
      simp only [go_sem,hx,hlt]
      iterate 5 ((try (refine drvZ Tryz.func161 ?_;simp only [go_sem,hx,hlt]));((with_reducible and_intros)<;>try exact sd);(try first | refine XK.p hf ok161 ?_ | refine XK.gp hf ok161 ?_))
      refine again (i+1) some [] _ hlt (by omega) ?_
      simp only [go_sem,TmOK,DM,DMs,CM,CMs,forall_eq,exists_eq_left,Mq,HpOK,LowOK]
      simp
    · have hn:¬ i<ks.length:=by omega
      refine drvL Tryz.func161 ?_
      simp only [go_sem,hn]
      iterate 3 ((try (refine drvZ Tryz.func161 ?_;simp only [go_sem,hn]));((with_reducible and_intros)<;>try exact sd))
      exact ret _
  · simp only [go_sem,TmOK,DM,DMs,CM,CMs,forall_eq,exists_eq_left,Mq,HpOK,LowOK]
    simp
theorem exprSameP (p : Pg) : ∀ (d : Nat) (e : Ex), shape p d e = true → DC Tryz.prog 161 [.agg e.cells, .agg e.cells] [] (fun r h => r = DB true ∧ h = [])
  | 0,e,h=>by simp [shape] at h
  | d+1,.mk k v ks,h=>by
    obtain ⟨g1,g2,_⟩:=shape_succ h
    exact exprSameS _ (by have:=(fits_len g1).1;simp only [Ex.kids];omega) fun x hx=>exprSameP p d x (g2 x hx)
theorem exprSameX {p:Pg} {e:Ex} (h:shape p 5 e=true∨e = .mk 0 0 []):DC Tryz.prog 161 [.agg e.cells,.agg e.cells] [] (fun r h=>r=DB true∧h=[]):=by
  rcases h with h | rfl
  · exact exprSameP p 5 e h
  · exact exprSameS _ (by simp [Ex.kids]) fun x hx=>by simp [Ex.kids] at hx
theorem sameBlockOf (l : List St1) (hl : l.length ≤ 1000) (hk : ∀ s ∈ l, DC Tryz.prog 155 [.agg s.cells, .agg s.cells] [] (fun r h => r = DB true ∧ h = [])) :
    DC Tryz.prog 148 [.c (.isl 11 (St1.cellsL l)),.c (.isl 11 (St1.cellsL l))] [] (fun r h=>r=DB true∧h=[]):=by
  have hmx:=mx_eq
  have ret:∀ (hp:Hp),RetOb 0 (fun r h=>r=DB true∧h=[]) (DB true) hp:=fun hp=>RetOb.plain (d:=DB _) ⟨rfl,rfl⟩ rfl
  generalize hR:(fun (r:D) (h:List (Option (List C)))=>r=DB true∧h=[])=R at ret ⊢
  refine dcZ Tryz.func148 ?_
  simp only [go_sem,bne_self_eq_false]
  iterate 4 ((try (refine drvZ Tryz.func148 ?_;simp only [go_sem,bne_self_eq_false]));((with_reducible and_intros)<;>try exact sd))
  refine Go.loopQ (fun i:Nat=>[(0,.c (.isl 11 (St1.cellsL l))),(1,.c (.isl 11 (St1.cellsL l))),(5,DI .i64 i)]) (fun i=>[]) 4096 (fun i=>i≤l.length) (fun i=>l.length - i) ?_ 0 some [] _ (Nat.zero_le _) ?_
  · intro i hi again
    rcases Nat.lt_or_ge i l.length with hlt | hge
    · obtain ⟨⟨k,t,⟨ik,iv,iks⟩,⟨vk,vv,vks⟩,cc,b,e⟩,hx⟩:∃ x,l[i]? = some x:=⟨l[i],by simp [hlt]⟩
      have hf:=hk _ (List.mem_of_getElem? hx)
      rw [← hR] at ret again ⊢
      refine drvL Tryz.func148 ?_
      simp only [go_sem,hx,hlt]
      iterate 5 ((try (refine drvZ Tryz.func148 ?_;simp only [go_sem,hx,hlt]));((with_reducible and_intros)<;>try exact sd);(try first | refine XK.p hf ok155 ?_ | refine XK.gp hf ok155 ?_))
      refine again (i+1) some [] _ hlt (by omega) ?_
      simp only [go_sem,TmOK,DM,DMs,CM,CMs,forall_eq,exists_eq_left,Mq,HpOK,LowOK]
      simp
    · have hn:¬ i<l.length:=by omega
      refine drvL Tryz.func148 ?_
      simp only [go_sem,hn]
      iterate 3 ((try (refine drvZ Tryz.func148 ?_;simp only [go_sem,hn]));((with_reducible and_intros)<;>try exact sd))
      exact ret _
  · simp only [go_sem,TmOK,DM,DMs,CM,CMs,forall_eq,exists_eq_left,Mq,HpOK,LowOK]
    simp
theorem sameStmtOf (s : St1) (hi : DC Tryz.prog 161 [.agg s.index.cells, .agg s.index.cells] [] (fun r h => r = DB true ∧ h = [])) (hv : DC Tryz.prog 161 [.agg s.value.cells, .agg s.value.cells] [] (fun r h => r = DB true ∧ h = []))
    (hb:DC Tryz.prog 148 [.c (.isl 11 (St1.cellsL s.body)),.c (.isl 11 (St1.cellsL s.body))] [] (fun r h=>r=DB true∧h=[])) (he:DC Tryz.prog 148 [.c (.isl 11 (St1.cellsL s.els)),.c (.isl 11 (St1.cellsL s.els))] [] (fun r h=>r=DB true∧h=[])) :
    DC Tryz.prog 155 [.agg s.cells,.agg s.cells] [] (fun r h=>r=DB true∧h=[]):=by
  obtain ⟨k,t,⟨ik,iv,iks⟩,⟨vk,vv,vks⟩,cc,b,e⟩:=s
  simp only [St1.index,St1.value,St1.body,St1.els] at hi hv hb he
  have ret:∀ (hp:Hp),RetOb 0 (fun r h=>r=DB true∧h=[]) (DB true) hp:=fun hp=>RetOb.plain (d:=DB _) ⟨rfl,rfl⟩ rfl
  generalize hR:(fun (r:D) (h:List (Option (List C)))=>r=DB true∧h=[])=R at ret ⊢
  refine dcZ Tryz.func155 ?_
  simp only [go_sem]
  rw [← hR] at ret ⊢
  iterate 9 ((try (refine drvZ Tryz.func155 ?_;simp only [go_sem]));((with_reducible and_intros)<;>try exact sd);(try first | refine XK.p hi ok161 ?_ | refine XK.gp hi ok161 ?_ | refine XK.p hv ok161 ?_ | refine XK.gp hv ok161 ?_ | refine XK.p hb ok148 ?_ | refine XK.gp hb ok148 ?_ | refine XK.p he ok148 ?_ | refine XK.gp he ok148 ?_))
  exact ret _
theorem sameBlockS (p : Pg) : ∀ (d : Nat) (l : List St1), (∀ s ∈ l, stmtOK p d s = true) → lsize d l ≤ 1000 → DC Tryz.prog 148 [.c (.isl 11 (St1.cellsL l)), .c (.isl 11 (St1.cellsL l))] [] (fun r h => r = DB true ∧ h = [])
  | 0,l,hok,_=>by
    have hnil:l=[]:=by
      cases l with
      | nil=>rfl
      | cons a r=>have:=hok a (by simp);simp [stmtOK] at this
    subst hnil
    exact sameBlockOf [] (by simp) fun s hs=>by simp at hs
  | d+1,l,hok,hsz=>by
    have hll:l.length≤1000:=by have:=lsize_subs d l;omega
    refine sameBlockOf l hll fun s hs=>?_
    have hso:=hok s hs
    have hts:=mem_le_lsize (d:=d+1) hs
    have hsub:=tsize_subs d s
    simp only [subs] at hsub
    obtain ⟨k,t,ix,v,cc,b,e⟩:=s
    have hx:=CtD.exprs_of hso
    have hbo:=stmtOK_succ hso
    simp only [St1.body,St1.els] at hsub
    exact sameStmtOf _ (exprSameX hx.1) (exprSameX hx.2) (sameBlockS p d b hbo.2.1 (by omega)) (sameBlockS p d e hbo.2.2 (by omega))
theorem programSameS (q : Pg) (vs vs' ar ar' : List Int) (bd : List St1) (hl : vs.length ≤ mx) (hl2 : ar.length ≤ mx) (hok : ∀ s ∈ bd, stmtOK q 5 s = true) (hsz : lsize 5 bd ≤ 1000) :
    DC Tryz.prog 131 [.agg (Pg.cells ⟨vs,ar,bd⟩),.agg (Pg.cells ⟨vs',ar',bd⟩)] [] (fun r h=>r=DB (decide (vs=vs') && decide (ar=ar'))∧h=[]):=by
  have h1:=l2Ints vs vs' hl
  have h2:=l2Ints ar ar' hl2
  have h3:=sameBlockS q 5 bd hok hsz
  unfold ints at h1 h2
  generalize decide (vs=vs')=b1 at *
  generalize decide (ar=ar')=b2 at *
  generalize hR:(fun (r:D) (h:List (Option (List C)))=>r=DB (b1 && b2)∧h=[])=R
  cases b1
  · refine dcZ Tryz.func131 ?_
    simp only [go_sem]
    iterate 5 ((try (refine drvZ Tryz.func131 ?_;simp only [go_sem]));((with_reducible and_intros)<;>try exact sd);(try first | refine XK.p h1 ok52 ?_ | refine XK.gp h1 ok52 ?_ | refine XK.gs (DB false) ?_))
    subst hR
    exact RetOb.plain (d:=DB _) ⟨rfl,rfl⟩ rfl
  · cases b2
    all_goals
      refine dcZ Tryz.func131 ?_
      simp only [go_sem]
      iterate 5 ((try (refine drvZ Tryz.func131 ?_;simp only [go_sem]));((with_reducible and_intros)<;>try exact sd);(try first | refine XK.p h1 ok52 ?_ | refine XK.gp h1 ok52 ?_ | refine XK.p h2 ok52 ?_ | refine XK.gp h2 ok52 ?_ | refine XK.p h3 ok148 ?_ | refine XK.gp h3 ok148 ?_ | refine XK.gs (DB false) ?_))
      subst hR
      exact RetOb.plain (d:=DB _) ⟨rfl,rfl⟩ rfl
theorem labelO (vs ar:List Int) (bd:List St1) (q:Pg) (hqv:q.vars.length=vs.length) (hqa:q.arrays.length=ar.length) (hl:vs.length≤mx) (hl2:ar.length≤mx) (h1:lab3 vs) (h2:lab3 ar):∀ (d:Nat) (e:Ex),shape q d e=true →
    DC Tryz.prog 126 [.agg [.msl 0 1 0 vs.length, .msl 1 1 0 ar.length, .isl 11 (St1.cellsL bd)], .agg e.cells] [some (vs.map I64), some (ar.map I64)]
      (fun r h=>r=DI .i64 (labN vs ar d e)∧h=[some (vs.map I64),some (ar.map I64)]):=by
  have hmx:=mx_eq
  intro d
  induction d with
  | zero=>intro e h;simp [shape] at h
  | succ d ih =>
    intro e hsh
    obtain ⟨k,v,ks⟩:=e
    obtain ⟨g1,g2,g3⟩:=shape_succ hsh
    obtain ⟨hl3,hla,hv0,hv1⟩:=fits_len g1
    generalize hR:(fun (r:D) (h:List (Option (List C)))=>r=DI .i64 (labN vs ar (d+1) (.mk k v ks))∧h=[some (vs.map I64),some (ar.map I64)])=R
    have hle:=fun e=>labN_le h1 h2 d e
    have hacc:∀ i,((ks.take i).map (labN vs ar d)).foldl (fun a b=>a ||| b) (labB vs ar k v)≤3:=fun i=>by
      have:=labN_le h1 h2 (d+1) (.mk k v (ks.take i))
      exact this
    have hlb:labB vs ar k v≤3:=hacc 0
    have key:k=2∨k=3∨(k ≠ 2∧k ≠ 3):=by omega
    rcases key with hk | hk | hk
    case' inl =>
      have hv1':v<vs.length:=by subst hk;simpa [limit,hqv,hqa] using hv1
      have hx:=(nth_mem (l:=vs) hv0 hv1').1
      have hB:((labB vs ar k v:Nat):Int)=nth vs v:=by have:=nth_lab h1 v;simp [labB,hk];omega
      have e2:(k == 2)=true:=by simp [hk]
      refine dcZ Tryz.func126 ?_
      simp only [go_sem]
      iterate 4 ((try (refine drvZ Tryz.func126 ?_;simp only [go_sem,hx,e2,eq_true hk]));((with_reducible and_intros)<;>try exact sd))
    case' inr.inl =>
      have hv1':v<ar.length:=by subst hk;simpa [limit,hqv,hqa] using hv1
      have hx:=(nth_mem (l:=ar) hv0 hv1').1
      have hB:((labB vs ar k v:Nat):Int)=nth ar v:=by have:=nth_lab h2 v;simp [labB,hk];omega
      have e2:(k == 2)=false:=by simp [hk]
      have e3:(k == 3)=true:=by simp [hk]
      have f2:(k=2)=False:=by simp [hk]
      refine dcZ Tryz.func126 ?_
      simp only [go_sem]
      iterate 4 ((try (refine drvZ Tryz.func126 ?_;simp only [go_sem,hx,e2,e3,f2,eq_true hk]));((with_reducible and_intros)<;>try exact sd))
    case' inr.inr =>
      have hB:((labB vs ar k v:Nat):Int)=0:=by simp [labB,hk.1,hk.2]
      have e2:(k == 2)=false:=by simp [hk.1]
      have e3:(k == 3)=false:=by simp [hk.2]
      have hk2:=hk.1
      have hk3:=hk.2
      refine dcZ Tryz.func126 ?_
      simp only [go_sem]
      iterate 4 ((try (refine drvZ Tryz.func126 ?_;simp only [go_sem,e2,e3,hk2,hk3]));((with_reducible and_intros)<;>try exact sd))
    all_goals
      clear hk
      refine Go.loopQ (fun i : Nat => [(2, .c (.ptr 2 0)), (3, .c (.ptr 66 0)), (5, DI .i64 (((ks.take i).map (labN vs ar d)).foldl (fun a b => a ||| b) (labB vs ar k v) : Nat)), (6, DI .i64 i)]) (fun i => [(0, some (vs.map I64)), (1, some (ar.map I64)), (2, some [.msl 0 1 0 vs.length, .msl 1 1 0 ar.length, .isl 11 (St1.cellsL bd)]), (66, some (Ex.cells (.mk k v ks)))])
        4096 (fun i=>i≤ks.length) (fun i=>ks.length - i) ?_ 0 some [] _ (Nat.zero_le _) ?_
      · intro i hi again
        rcases Nat.lt_or_ge i ks.length with hlt | hge
        · obtain ⟨⟨k',v',ks'⟩,hx⟩:∃ x,ks[i]? = some x:=⟨ks[i],by simp [hlt]⟩
          have hsc:=lab_succ (labN vs ar d) (labB vs ar k v) ks i _ hx
          have ha:=hacc i
          have hb:=hle (.mk k' v' ks')
          have hc:=hacc (i+1)
          rw [hsc] at hc
          have hi:=ih (.mk k' v' ks') (g2 _ (List.mem_of_getElem? hx))
          generalize ((ks.take i).map (labN vs ar d)).foldl (fun a b=>a ||| b) (labB vs ar k v)=acc at *
          refine drvL Tryz.func126 ?_
          simp only [go_sem,hx,hlt]
          iterate 3 ((try (refine drvZ Tryz.func126 ?_;simp only [go_sem,hx,hlt]));((with_reducible and_intros)<;>try exact sd))
          refine XK.callG [0,1] hi ok126 (hhpG (by simp [HH,upd,renCs_I])) (hbT ()) (fun d h' ⟨_,e⟩=>by subst e;simp) ?_ (fun _=>⟨by kernel_rfl,_,_,⟨rfl,rfl⟩,by simp⟩)
          rintro _ _ ⟨rfl,rfl⟩ _
          iterate 4 ((try (refine drvZ Tryz.func126 ?_;simp only [go_sem,hx,hlt,renCs_I]));((with_reducible and_intros)<;>try exact sd))
          refine again (i+1) some [] _ hlt (by omega) ?_
          simp only [go_sem,TmOK,DM,DMs,CM,CMs,forall_eq,exists_eq_left,Mq,HpOK,LowOK,hsc]
          simp [CMs_I]
          rw [← List.map_take,hsc]
        · have hn:¬ i<ks.length:=by omega
          obtain rfl:i=ks.length:=by omega
          refine drvL Tryz.func126 ?_
          simp only [go_sem,hn,List.take_length]
          iterate 2 ((try (refine drvZ Tryz.func126 ?_;simp only [go_sem,hn,List.take_length]));((with_reducible and_intros)<;>try exact sd))
          refine RetOb.ofQ some [] (DI .i64 _) _ ?_ (by rw [← hR];exact ⟨rfl,rfl⟩) (by simp)
          simp [enumL,DM,DMs,CM,HpOK,LowOK,hOf,upd,CMs_I]
          rfl
      · simp only [go_sem,TmOK,DM,DMs,CM,CMs,forall_eq,exists_eq_left,Mq,HpOK,LowOK,List.take_zero,List.map_nil,List.foldl_nil]
        simp [hB,CMs_I]
theorem i_set (l:List Int) (j:Nat) (x:Int):(l.map I64).set j (.v (.int .i64 x))=(l.set j x).map I64:=by rw [List.map_set]
structure Up (l l' : List Int) : Prop where
  len:l'.length=l.length
  lab:lab3 l'
  le:∀ (i:Nat) (x x':Int),l[i]? = some x→l'[i]? = some x'→x≤x'
theorem Up.refl {l:List Int} (h:lab3 l):Up l l:=⟨rfl,h,fun i x x' a b=>by rw [a] at b;cases b;exact Int.le_refl _⟩
theorem Up.trans {a b c:List Int} (h:Up a b) (h':Up b c):Up a c :=
  ⟨h'.len.trans h.len,h'.lab,fun i x x' h1 h2=>by
    have hi:i<b.length:=by have:=(List.getElem?_eq_some_iff.1 h1).1;rw [h.len];exact this
    exact Int.le_trans (h.le i x b[i] h1 (by simp [hi])) (h'.le i b[i] x' (by simp [hi]) h2)⟩
theorem Up.set {l l':List Int} (h:Up l l') {i T n:Nat} (ht:l'[i]? = some (T:Int)) (hn:n≤3) (hT:T≤n):Up l (l'.set i (n:Int)) :=
  ⟨by rw [List.length_set,h.len],fun x hx=>by
    rcases List.mem_or_eq_of_mem_set hx with h1 | rfl
    · exact h.lab x h1
    · omega,fun j x x' h1 h2=>by
    rw [List.getElem?_set] at h2
    by_cases e:i=j
    · subst e
      have hlt:=(List.getElem?_eq_some_iff.1 ht).1
      rw [if_pos rfl,if_pos hlt] at h2
      cases h2
      have:=h.le i x T h1 ht
      omega
    · rw [if_neg e] at h2;exact h.le j x x' h1 h2⟩
def raR (vs ar:List Int) (r:D) (h:List (Option (List C))):Prop:=∃ vs' ar',r = .tup []∧Up vs vs'∧Up ar ar'∧h=[some (vs'.map I64),some (ar'.map I64)]
theorem raise (q:Pg) (bd:List St1) (hl:q.vars.length≤1000) (hl2:q.arrays.length≤1000):∀ (d:Nat) (l:List St1) (vs ar:List Int) (c:Nat),vs.length=q.vars.length→ar.length=q.arrays.length→lab3 vs→lab3 ar→c≤3→(∀ s ∈ l,stmtOK q d s=true)→l.length≤1000 →
    (∀ s ∈ l,lsize d l≤1000) →
    DC Tryz.prog 130 [.agg [.msl 0 1 0 vs.length,.msl 1 1 0 ar.length,.isl 11 (St1.cellsL bd)],.c (.isl 11 (St1.cellsL l)),DI .i64 c] [some (vs.map I64),some (ar.map I64)] (raR vs ar):=by
  have hmx:=mx_eq
  intro d
  induction d with
  | zero =>
    intro l vs ar c hv ha h1 h2 hc hok hll hsz
    have hnil:l=[]:=by
      cases l with
      | nil=>rfl
      | cons a r=>have:=hok a (by simp);simp [stmtOK] at this
    subst hnil
    generalize hR:raR vs ar=R
    have hz:((0:Int)<0)=False:=eq_false (by omega)
    refine dcZ Tryz.func130 ?_
    simp only [go_sem,St1.cellsL,Int.natCast_zero]
    refine Go.loop ?_
    refine drvL Tryz.func130 ?_
    simp only [go_sem,St1.cellsL,Int.natCast_zero,hz]
    iterate 2 ((try (refine drvZ Tryz.func130 ?_;simp only [go_sem,St1.cellsL,Int.natCast_zero,hz]));((with_reducible and_intros)<;>try exact sd))
    refine RetOb.ofQ some [] (.tup []) [some (vs.map I64),some (ar.map I64)] ?_ (by rw [← hR];exact ⟨vs,ar,rfl,.refl h1,.refl h2,rfl⟩) (by simp)
    simp [enumL,DM,DMs,CM,HpOK,LowOK,hOf,upd,CMs_I,hpL]
  | succ d ih =>
    intro l vs ar c hv ha h1 h2 hc hok hll hsz
    generalize hR:raR vs ar=R
    refine dcZ Tryz.func130 ?_
    simp only [go_sem]
    refine Go.loopQ (fun σ : Nat × List Int × List Int => [(1, .c (.isl 11 (St1.cellsL l))), (2, DI .i64 c), (3, .c (.ptr 2 0)), (6, DI .i64 σ.1)])
      (fun σ=>[(0,some (σ.2.1.map I64)),(1,some (σ.2.2.map I64)),(2,some [.msl 0 1 0 vs.length,.msl 1 1 0 ar.length,.isl 11 (St1.cellsL bd)])]) 4096 (fun σ=>σ.1≤l.length∧Up vs σ.2.1∧Up ar σ.2.2) (fun σ=>l.length - σ.1) ?_ (0,vs,ar) some [] _ ⟨Nat.zero_le _,.refl h1,.refl h2⟩ ?_
    · rintro ⟨i,xs,ys⟩ ⟨hi,hux,huy⟩ again
      simp only at hi hux huy
      have hxl:=hux.len
      have hyl:=huy.len
      rcases Nat.lt_or_ge i l.length with hlt | hge
      · obtain ⟨⟨k,t,⟨ik,iv,iks⟩,⟨vk,vv,vks⟩,cc,b,e⟩,hs⟩:∃ s,l[i]? = some s:=⟨l[i],by simp [hlt]⟩
        have hmem:=List.mem_of_getElem? hs
        have hso:=hok _ hmem
        have hsz:=hsz _ hmem
        have hts:=mem_le_lsize (d:=d+1) hmem
        have hsub:=tsize_subs d (.mk k t (.mk ik iv iks) (.mk vk vv vks) cc b e)
        simp only [subs,St1.body,St1.els] at hsub
        have hbo:=stmtOK_succ hso
        obtain ⟨s1,s2⟩:=shapeV hso
        have hlabv:=fun h=>labelO xs ys bd q (by omega) (by omega) (by omega) (by omega) hux.lab huy.lab 5 (.mk vk vv vks) (s1 h)
        have hlabi:=fun h=>labelO xs ys bd q (by omega) (by omega) (by omega) (by omega) hux.lab huy.lab 5 (.mk ik iv iks) (s2 h)
        have hlev:=labN_le hux.lab huy.lab 5 (.mk vk vv vks)
        have hlei:=labN_le hux.lab huy.lab 5 (.mk ik iv iks)
        have hbl:∀ bl:List St1,lsize d bl≤1000→(∀ s ∈ bl,stmtOK q d s=true)→bl.length≤1000:=fun bl h hk=>by
          cases d with
          | zero =>
            cases bl with
            | nil=>simp
            | cons a r=>have:=hk a (by simp);simp [stmtOK] at this
          | succ d=>have:=lsize_subs d bl;omega
        have hrb:=fun c' hc' vs' ar' h1 h2 h3 h4=>ih b vs' ar' c' h1 h2 h3 h4 hc' hbo.2.1 (hbl b (by omega) hbo.2.1) (fun _ _=>by omega)
        have hre:=fun c' hc' vs' ar' h1 h2 h3 h4=>ih e vs' ar' c' h1 h2 h3 h4 hc' hbo.2.2 (hbl e (by omega) hbo.2.2) (fun _ _=>by omega)
        generalize labN xs ys 5 (.mk vk vv vks)=lv at *
        generalize labN xs ys 5 (.mk ik iv iks)=li at *
        rw [hxl,hyl] at hlabv hlabi
        rcases head_kind hbo.1 with ⟨hk,ht0,ht1,hr⟩ | ⟨rfl,ht0,ht1,hri,hat,hr⟩ | ⟨rfl,hr⟩ | ⟨rfl,_,_⟩
        · rcases hk with rfl | rfl
          · have hlabv:=hlabv (by decide)
            obtain ⟨T,hT,hTe,htt⟩:=lab_at hux.lab ht0 (by omega)
            have hor:=or3 hT hlev
            have hor2:=or3 hor hc
            refine drvL Tryz.func130 ?_
            simp only [go_sem,hs,hlt]
            iterate 4 ((try (refine drvZ Tryz.func130 ?_;simp only [go_sem,hs,hlt,htt]));((with_reducible and_intros)<;>try exact sd))
            refine XK.rp [0,1] hlabv ok126 (by simp [HH,upd,hOf,renCs_I]) ⟨kfs_mapI _ (kf_I _),kfs_mapI _ (kf_I _),trivial⟩ ?_
            iterate 4 ((try (refine drvZ Tryz.func130 ?_;simp only [go_sem,hs,hlt,renCs_I,i_set,htt]));((with_reducible and_intros)<;>try exact sd))
            refine again (i+1,xs.set t.toNat (T ||| lv ||| c:Nat),ys) some [] _ ⟨hlt,hux.set htt hor2 (Nat.le_trans Nat.left_le_or Nat.left_le_or),huy⟩ (show l.length - (i+1)<l.length - i by omega) ?_
            simp only [go_sem,TmOK,DM,DMs,CM,CMs,forall_eq,exists_eq_left,Mq,HpOK,LowOK]
            simp [CMs_I]
            try exact CMs.kf (by rw [← List.map_set];exact kf_I _)
          · refine drvL Tryz.func130 ?_
            simp only [go_sem,hs,hlt,renCs_I,i_set]
            iterate 5 ((try (refine drvZ Tryz.func130 ?_;simp only [go_sem,hs,hlt,renCs_I,i_set]));((with_reducible and_intros)<;>try exact sd))
            refine again (i+1,xs,ys) some [] _ ⟨hlt,hux,huy⟩ (show l.length - (i+1)<l.length - i by omega) ?_
            simp only [go_sem,TmOK,DM,DMs,CM,CMs,forall_eq,exists_eq_left,Mq,HpOK,LowOK]
            simp [CMs_I]
            try exact CMs.kf (by rw [← List.map_set];exact kf_I _)
        · have hlabv:=hlabv (by decide)
          have hlabi:=hlabi rfl
          obtain ⟨T,hT,hTe,htt⟩:=lab_at huy.lab ht0 (by omega)
          have hor:=or3 hT hlev
          have hor1:=or3 hor hlei
          have hor2:=or3 hor1 hc
          · refine drvL Tryz.func130 ?_
            simp only [go_sem,hs,hlt,renCs_I,i_set]
            iterate 5 ((try (refine drvZ Tryz.func130 ?_;simp only [go_sem,hs,hlt,renCs_I,i_set,htt]));((with_reducible and_intros)<;>try exact sd))
            refine XK.rp [0,1] hlabv ok126 (by simp [HH,upd,hOf,renCs_I]) ⟨kfs_mapI _ (kf_I _),kfs_mapI _ (kf_I _),trivial⟩ ?_
            iterate 3 ((try (refine drvZ Tryz.func130 ?_;simp only [go_sem,hs,hlt,renCs_I,i_set,htt]));((with_reducible and_intros)<;>try exact sd))
            refine XK.rp [0,1] hlabi ok126 (by simp [HH,upd,hOf,renCs_I]) ⟨kfs_mapI _ (kf_I _),kfs_mapI _ (kf_I _),trivial⟩ ?_
            iterate 4 ((try (refine drvZ Tryz.func130 ?_;simp only [go_sem,hs,hlt,renCs_I,i_set,htt]));((with_reducible and_intros)<;>try exact sd))
            refine again (i+1,xs,ys.set t.toNat (T ||| lv ||| li ||| c:Nat)) some [] _ ⟨hlt,hux,huy.set htt hor2 (Nat.le_trans Nat.left_le_or (Nat.le_trans Nat.left_le_or Nat.left_le_or))⟩ (show l.length - (i+1)<l.length - i by omega) ?_
            simp only [go_sem,TmOK,DM,DMs,CM,CMs,forall_eq,exists_eq_left,Mq,HpOK,LowOK]
            simp [CMs_I]
            try exact CMs.kf (by rw [← List.map_set];exact kf_I _)
        · have hlabv:=hlabv (by decide)
          have hor:=or3 hc hlev
          have hA:=hux.lab
          have hB:=huy.lab
          have hrb:=hrb _ hor xs ys (by omega) (by omega) hA hB
          rw [hxl,hyl] at hrb
          · refine drvL Tryz.func130 ?_
            simp only [go_sem,hs,hlt,renCs_I,i_set]
            iterate 5 ((try (refine drvZ Tryz.func130 ?_;simp only [go_sem,hs,hlt,renCs_I,i_set]));((with_reducible and_intros)<;>try exact sd))
            refine XK.rp [0,1] hlabv ok126 (by simp [HH,upd,hOf,renCs_I]) ⟨kfs_mapI _ (kf_I _),kfs_mapI _ (kf_I _),trivial⟩ ?_
            iterate 3 ((try (refine drvZ Tryz.func130 ?_;simp only [go_sem,hs,hlt,renCs_I,i_set]));((with_reducible and_intros)<;>try exact sd))
            refine XK.callG [0,1] hrb ok130 (hhpG (by simp [HH,upd,hOf,renCs_I])) (hbT ()) (fun d h' ⟨_,_,_,_,_,e⟩=>by subst e;simp) ?_ (fun _=>⟨by kernel_rfl,_,_,⟨xs,ys,rfl,.refl hA,.refl hB,rfl⟩,by simp⟩)
            rintro _ _ ⟨xs2,ys2,rfl,u1,u2,rfl⟩ _
            have hxl2:=u1.len
            have hyl2:=u2.len
            have hlab2:=labelO xs2 ys2 bd q (by omega) (by omega) (by omega) (by omega) u1.lab u2.lab 5 (.mk vk vv vks) (s1 (by decide))
            have hlev2:=labN_le u1.lab u2.lab 5 (.mk vk vv vks)
            generalize labN xs2 ys2 5 (.mk vk vv vks)=lv2 at *
            have hor2:=or3 hc hlev2
            have hA:=u1.lab
            have hB:=u2.lab
            have hre:=hre _ hor2 xs2 ys2 (by omega) (by omega) hA hB
            rw [hxl2,hyl2,hxl,hyl] at hre hlab2
            iterate 5 ((try (refine drvZ Tryz.func130 ?_;simp only [go_sem,hs,hlt,renCs_I,i_set]));((with_reducible and_intros)<;>try exact sd))
            refine XK.rp [0,1] hlab2 ok126 (by simp [HH,upd,hOf,renCs_I]) ⟨kfs_mapI _ (kf_I _),kfs_mapI _ (kf_I _),trivial⟩ ?_
            iterate 3 ((try (refine drvZ Tryz.func130 ?_;simp only [go_sem,hs,hlt,renCs_I,i_set]));((with_reducible and_intros)<;>try exact sd))
            refine XK.callG [0,1] hre ok130 (hhpG (by simp [HH,upd,hOf,renCs_I])) (hbT ()) (fun d h' ⟨_,_,_,_,_,e⟩=>by subst e;simp) ?_ (fun _=>⟨by kernel_rfl,_,_,⟨xs2,ys2,rfl,.refl hA,.refl hB,rfl⟩,by simp⟩)
            rintro _ _ ⟨xs3,ys3,rfl,u3,u4,rfl⟩ _
            iterate 5 ((try (refine drvZ Tryz.func130 ?_;simp only [go_sem,hs,hlt,renCs_I,i_set]));((with_reducible and_intros)<;>try exact sd))
            refine again (i+1,xs3,ys3) some [] _ ⟨hlt,(hux.trans u1).trans u3,(huy.trans u2).trans u4⟩ (show l.length - (i+1)<l.length - i by omega) ?_
            simp only [go_sem,TmOK,DM,DMs,CM,CMs,forall_eq,exists_eq_left,Mq,HpOK,LowOK]
            simp [CMs_I]
            try exact CMs.kf (by rw [← List.map_set];exact kf_I _)
        · have hrb:=hrb c hc xs ys (by omega) (by omega) hux.lab huy.lab
          rw [hxl,hyl] at hrb
          · refine drvL Tryz.func130 ?_
            simp only [go_sem,hs,hlt,renCs_I,i_set]
            iterate 5 ((try (refine drvZ Tryz.func130 ?_;simp only [go_sem,hs,hlt,renCs_I,i_set]));((with_reducible and_intros)<;>try exact sd))
            refine XK.callG [0,1] hrb ok130 (hhpG (by simp [HH,upd,hOf,renCs_I])) (hbT ()) (fun d h' ⟨_,_,_,_,_,e⟩=>by subst e;simp) ?_
            rintro _ _ ⟨xs2,ys2,rfl,u1,u2,rfl⟩ _
            iterate 5 ((try (refine drvZ Tryz.func130 ?_;simp only [go_sem,hs,hlt,renCs_I,i_set]));((with_reducible and_intros)<;>try exact sd))
            refine again (i+1,xs2,ys2) some [] _ ⟨hlt,hux.trans u1,huy.trans u2⟩ (show l.length - (i+1)<l.length - i by omega) ?_
            simp only [go_sem,TmOK,DM,DMs,CM,CMs,forall_eq,exists_eq_left,Mq,HpOK,LowOK]
            simp [CMs_I]
            try exact CMs.kf (by rw [← List.map_set];exact kf_I _)
      · have hn:¬ i<l.length:=by omega
        refine drvL Tryz.func130 ?_
        simp only [go_sem,hn]
        iterate 3 ((try (refine drvZ Tryz.func130 ?_;simp only [go_sem,hn]));((with_reducible and_intros)<;>try exact sd))
        refine RetOb.ofQ some [] (.tup []) [some (xs.map I64),some (ys.map I64)] ?_ (by rw [← hR];exact ⟨xs,ys,rfl,hux,huy,rfl⟩) (by simp)
        simp [enumL,DM,DMs,CM,HpOK,LowOK,hOf,upd,CMs_I]
    · simp only [go_sem,TmOK,DM,DMs,CM,CMs,forall_eq,exists_eq_left,Mq,HpOK,LowOK]
      simp [CMs_I]
end Go.Proofs.YtoakidkcppinpaaGreat.CtR
namespace Go.Proofs.YtoakidkcppinpaaGreat.CtD
open Go Go.CT CtF CtR
variable [Yn]
def inR (p:Pg) (r:D) (h:List (Option (List C))):Prop:=∃ (q:Pg) (ok:Bool),r = .tup [.agg q.cells,DB ok]∧h=[]∧(ok=true→Up p.vars q.vars∧Up p.arrays q.arrays∧q.body=p.body∧progOK p=true)
def roomL (l:List Int):Nat:=(l.map fun x=>(3 - x).toNat).sum
theorem room_le:∀ {l l':List Int},lab3 l→CtR.Up l l'→roomL l'≤roomL l∧(l ≠ l'→roomL l' < roomL l):=by
  intro l
  induction l with
  | nil=>intro l' _ h;have:=h.len;cases l' with
    | nil=>simp
    | cons a r=>simp at this
  | cons x r ih =>
    intro l' hl h
    have hlen:=h.len
    cases l' with
    | nil=>simp at hlen
    | cons y s =>
      have hx:=hl x (by simp)
      have hy:=h.lab y (by simp)
      have hxy:=h.le 0 x y rfl rfl
      have h2:CtR.Up r s:=⟨by simpa using hlen,fun z hz=>h.lab z (by simp [hz]),fun i a b ha hb=>h.le (i+1) a b (by simpa using ha) (by simpa using hb)⟩
      obtain ⟨g1,g2⟩:=ih (fun z hz=>hl z (by simp [hz])) h2
      have e:∀ (z:Int) (t:List Int),roomL (z :: t)=(3 - z).toNat+roomL t:=fun z t=>by simp [roomL]
      rw [e,e]
      refine ⟨by omega,fun hne=>?_⟩
      by_cases hxe:x=y
      · subst hxe
        have:=g2 (fun e=>hne (by rw [e]))
        omega
      · omega
theorem inferS (p:Pg) (hl:p.vars.length≤1000) (hl2:p.arrays.length≤1000) (hb:lsize 5 p.body≤1099511627776) (k:Nat) (hsm:∀ s ∈ p.body,SmS k s):DC Tryz.prog 99 [.agg p.cells] [] (inR p):=by
  have hmx:=mx_eq
  have hv:=programValidS p (by omega) (by omega) hb
  generalize hR:inR p=R
  cases hq:progOK p with
  | false =>
    rw [hq] at hv
    obtain ⟨vs,ar,bd⟩:=p
    refine dcZ Tryz.func99 ?_
    simp only [go_sem]
    iterate 4 ((try (refine drvZ Tryz.func99 ?_;simp only [go_sem]));((with_reducible and_intros)<;>try exact sd);(try first | refine XK.p hv ok70 ?_ | refine XK.gp hv ok70 ?_))
    refine RetOb.ofQ (fun _=>none) [] (.tup [.agg (Pg.cells ⟨[],[],[]⟩),DB false]) [] ?_ (by rw [← hR];exact ⟨_,false,rfl,rfl,fun h=>by cases h⟩) (by simp)
    simp [enumL,DM,DMs,CM,CMs,HpOK,LowOK,Pg.cells,isI,St1.cellsL]
  | true =>
    rw [hq] at hv
    have hlab:=labs_of hq
    have hbo:=body_of hq
    have hbl:p.body.length≤60:=by have h2:lsize 5 p.body=_:=lsize_subs 4 p.body;have:=hbo.2;omega
    have hcp:=fun vs ar h1 h2=>l2Copy ⟨vs,ar,p.body⟩ k h1 h2 (show p.body.length≤1000 by omega) hsm
    have hra:=fun vs ar=>raise p p.body hl hl2 5 p.body vs ar 0
    have hsa:=fun vs vs' ar ar' h1 h2=>programSameS p vs vs' ar ar' p.body h1 h2 hbo.1 (by have:=hbo.2;omega)
    have hcf:=fun vs ar h1 h2=>checkFlowS ⟨vs,ar,p.body⟩ h1 h2 (show lsize 5 p.body≤1099511627776 by omega)
    have hbk:=hbo.1
    have hbs:=hbo.2
    obtain ⟨vs,ar,bd⟩:=p
    simp only at hcp hra hsa hcf hl hl2 hlab hbl hbk hbs
    have hc0:=hcp vs ar hl hl2
    try simp only at hc0
    refine dcZ Tryz.func99 ?_
    simp only [go_sem]
    iterate 4 ((try (refine drvZ Tryz.func99 ?_;simp only [go_sem]));((with_reducible and_intros)<;>try exact sd);(try first | refine XK.p hv ok70 ?_ | refine XK.gp hv ok70 ?_))
    refine XK.callG [] hc0 ok97 (fun i' x h=>by simp at h) (hbT ()) (fun d h' ⟨_,e⟩=>by subst e;simp) ?_
    rintro _ _ ⟨rfl,rfl⟩ _
    iterate 4 ((try (refine drvZ Tryz.func99 ?_;simp only [go_sem,renCs_I,renCs_stC]));((with_reducible and_intros)<;>try exact sd))
    have hstl:bd.map St1.cells=St1.cellsL bd:=(St1.cellsL_eq bd).symm
    have hfl:(St1.cellsL bd).flatten=stC bd:=by rw [St1.cellsL_eq];rfl
    have hbz:∀ x ∈ St1.cellsL bd,x.length=11:=fun x hx=>by
      rw [St1.cellsL_eq] at hx
      obtain ⟨s,_,rfl⟩:=List.mem_map.1 hx
      obtain ⟨k,t,⟨ik,iv,iks⟩,⟨vk,vv,vks⟩,cc,b,e⟩:=s
      rfl
    have hbkf:∀ x ∈ St1.cellsL bd,∀ c ∈ x,kf c=true:=fun x hx=>by
      rw [St1.cellsL_eq] at hx
      obtain ⟨s,_,rfl⟩:=List.mem_map.1 hx
      exact st_kf s
    have hcl:bd.length=(St1.cellsL bd).length:=(St1.cellsL_length bd).symm
    refine Go.loopQ (fun σ : List Int × List Int => [(2, .c (.ptr 64 0)), (3, DB false), (4, .c (.ptr 512 0))])
      (fun σ=>[(64,some [.v (.slice none 0 0),.v (.slice none 0 0),.v (.slice none 0 0)]),(512,some (Pg.cells ⟨σ.1,σ.2,bd⟩))]) 4096 (fun σ=>CtR.Up vs σ.1∧CtR.Up ar σ.2) (fun σ=>roomL σ.1+roomL σ.2) ?_ (vs,ar) some [448,449,450] _ ⟨.refl hlab.1,.refl hlab.2⟩ ?_
    · rintro ⟨xs,ys⟩ ⟨hux,huy⟩ again
      simp only at hux huy
      have hxl:=hux.len
      have hyl:=huy.len
      have hc1:=hcp xs ys (by omega) (by omega)
      try simp only at hc1
      have hr1:=hra xs ys hxl hyl hux.lab huy.lab (by decide) hbk (by omega) (fun _ _=>by omega)
      refine drvL Tryz.func99 ?_
      simp only [go_sem]
      iterate 2 ((try (refine drvZ Tryz.func99 ?_;simp only [go_sem]));((with_reducible and_intros)<;>try exact sd))
      refine XK.callG [] hc1 ok97 (fun i' x h=>by simp at h) (hbT ()) (fun d h' ⟨_,e⟩=>by subst e;simp) ?_
      rintro _ _ ⟨rfl,rfl⟩ _
      iterate 1 ((try (refine drvZ Tryz.func99 ?_;simp only [go_sem,renCs_I,renCs_stC]));((with_reducible and_intros)<;>try exact sd))
      refine XK.subQ (r := some) (fz := [4162]) (tl := [(2, .c (.ptr 64 0)), (3, DB false), (4, .c (.ptr 512 0)), (5, .c (.ptr 4224 0)), (16, .agg [.msl 4160 1 0 xs.length, .msl 4161 1 0 ys.length, .isl 11 (St1.cellsL bd)]), (18, .c (.isl 11 (St1.cellsL bd)))])
        (hl:=[(64,some [.v (.slice none 0 0),.v (.slice none 0 0),.v (.slice none 0 0)]),(512,some (Pg.cells ⟨xs,ys,bd⟩)),(4224,some [.msl 4160 1 0 xs.length,.msl 4161 1 0 ys.length,.isl 11 (St1.cellsL bd)]),(4160,some (xs.map I64)),(4161,some (ys.map I64))]) ?_ ?_
      · simp only [go_sem,TmOK,DM,DMs,CM,CMs,forall_eq,exists_eq_left,Mq,HpOK,LowOK]
        simp [CMs_I,flat_I',flat_I,hfl,hcl,kf]
        exact ⟨hbz,hbkf⟩
      refine XK.callG [4160,4161] hr1 ok130 (hhpG (by simp [HH,upd,hOf,renCs_I])) (hbT ()) (fun d h' ⟨_,_,_,_,_,e⟩=>by subst e;simp) ?_
      rintro _ _ ⟨xs2,ys2,rfl,u1,u2,rfl⟩ _
      have hxl2:=u1.len
      have hyl2:=u2.len
      refine XK.subQ (r:=some) (fz:=[4160,4161]) (tl:=[(2,.c (.ptr 64 0)),(3,DB false),(4,.c (.ptr 512 0)),(5,.c (.ptr 4224 0))]) (hl:=[(64,some [.v (.slice none 0 0),.v (.slice none 0 0),.v (.slice none 0 0)]),(512,some (Pg.cells ⟨xs,ys,bd⟩)),(4224,some (Pg.cells ⟨xs2,ys2,bd⟩))]) ?_ ?_
      · simp only [go_sem,TmOK,DM,DMs,CM,CMs,forall_eq,exists_eq_left,Mq,HpOK,LowOK]
        simp [CMs_I,flat_I',flat_I,kf,hxl2,hyl2,upd,renCs_I]
      have hs2:=hsa xs2 xs ys2 ys (by omega) (by omega)
      have hr1:=room_le hux.lab u1
      have hr2:=room_le huy.lab u2
      have hcfx:=hcf xs ys (by omega) (by omega)
      generalize hB:(decide (xs2=xs) && decide (ys2=ys))=B at *
      cases B with
      | false =>
        iterate 5 ((try (refine drvZ Tryz.func99 ?_;simp only [go_sem]));((with_reducible and_intros)<;>try exact sd);(try first | refine XK.p hs2 ok131 ?_ | refine XK.gp hs2 ok131 ?_))
        refine again (xs2,ys2) some [] _ ⟨hux.trans u1,huy.trans u2⟩ ?_ ?_
        · show roomL xs2+roomL ys2<roomL xs+roomL ys
          by_cases e1:xs=xs2
          · by_cases e2:ys=ys2
            · subst e1 e2;simp at hB
            · have:=hr2.2 e2;omega
          · have:=hr1.2 e1;omega
        · simp only [go_sem,TmOK,DM,DMs,CM,CMs,forall_eq,exists_eq_left,Mq,HpOK,LowOK]
          simp
      | true =>
        generalize hc:chkR flowR ⟨xs,ys,bd⟩=x at *
        obtain ⟨code,at_⟩:=x
        by_cases hz:code=0
        · subst hz
          iterate 9 ((try (refine drvZ Tryz.func99 ?_;simp only [go_sem,bne_self_eq_false]));((with_reducible and_intros)<;>try exact sd);(try first | refine XK.p hs2 ok131 ?_ | refine XK.gp hs2 ok131 ?_ | refine XK.p hcfx ok73 ?_ | refine XK.gp hcfx ok73 ?_))
          refine RetOb.ofQ (fun _=>none) [] (.tup [.agg (Pg.cells ⟨xs,ys,bd⟩),DB true]) [] ?_ (by rw [← hR];exact ⟨⟨xs,ys,bd⟩,true,rfl,rfl,fun _=>⟨hux,huy,rfl,hq⟩⟩) (by simp)
          simp [enumL,DM,DMs,CM,CMs,HpOK,LowOK,Pg.cells,isI]
        · have g1:(code=0)=False:=eq_false hz
          have g2:(code != 0)=true:=by simp [hz]
          iterate 9 ((try (refine drvZ Tryz.func99 ?_;simp only [go_sem,g1,g2]));((with_reducible and_intros)<;>try exact sd);(try first | refine XK.p hs2 ok131 ?_ | refine XK.gp hs2 ok131 ?_ | refine XK.p hcfx ok73 ?_ | refine XK.gp hcfx ok73 ?_))
          refine RetOb.ofQ (fun _=>none) [] (.tup [.agg (Pg.cells ⟨[],[],[]⟩),DB false]) [] ?_ (by rw [← hR];exact ⟨_,false,rfl,rfl,fun h=>by cases h⟩) (by simp)
          simp [enumL,DM,DMs,CM,CMs,HpOK,LowOK,Pg.cells,isI,St1.cellsL]
    · simp only [go_sem,TmOK,DM,DMs,CM,CMs,forall_eq,exists_eq_left,Mq,HpOK,LowOK]
      simp [CMs_I,flat_I',flat_I,hfl,hcl,kf]
      try exact ⟨hbz,hbkf⟩
theorem stmtOK_len {p q:Pg} (h1:q.vars.length=p.vars.length) (h2:q.arrays.length=p.arrays.length):∀ (d:Nat) (s:St1),stmtOK q d s=stmtOK p d s:=by
  have hsh:∀ (d:Nat) (e:Ex),CtR.shape q d e=CtR.shape p d e:=by
    have hlim:∀ k,limit q k=limit p k:=fun k=>by simp only [limit,h1,h2]
    intro d
    induction d with
    | zero=>intro e;rfl
    | succ d ih =>
      intro e
      obtain ⟨k,v,ks⟩:=e
      have he:CtR.shape q d=CtR.shape p d:=funext ih
      simp only [CtR.shape,fitsE,hlim,he]
  have hr:∀ e,right q e=right p e:=fun e=>by simp only [right,hsh]
  intro d
  induction d with
  | zero=>intro s;rfl
  | succ d ih =>
    intro s
    obtain ⟨k,t,ix,v,c,b,e⟩:=s
    have h3:∀ l:List St1,l.all (stmtOK q d)=l.all (stmtOK p d):=fun l=>by congr 1;funext s;exact ih s
    simp only [stmtOK,headOK,hr,h1,h2,h3]
theorem DrP.up {p q:Pg} (h:DrP p) (h1:CtR.Up p.vars q.vars) (h2:CtR.Up p.arrays q.arrays) (h3:q.body=p.body):DrP q:=by
  refine ⟨?_,by rw [h1.len];exact h.nv,by rw [h2.len];exact h.na,by rw [h3];exact h.nb,by rw [h3];exact h.sm⟩
  have hok:=h.ok
  simp only [progOK,headsOK,Bool.and_eq_true,decide_eq_true_eq] at hok ⊢
  have hst:(stmtOK q 5)=stmtOK p 5:=funext fun s=>stmtOK_len h1.len h2.len 5 s
  refine ⟨⟨?_,by rw [h3,hst];exact hok.1.2⟩,by rw [h3];exact hok.2⟩
  have hl:∀ l:List Int,lab3 l→labs l=true:=fun l hl=>by
    simp only [labs,List.all_eq_true,Bool.and_eq_true,decide_eq_true_eq]
    exact hl
  obtain ⟨⟨⟨⟨g1,g2⟩,g3⟩,g4⟩,g5⟩:=hok.1.1
  rw [h1.len,h2.len]
  exact ⟨⟨⟨⟨g1,g2⟩,g3⟩,hl _ h1.lab⟩,hl _ h2.lab⟩
def tyR (bs:List Int) (n:Nat) (r:D) (h:List (Option (List C))):Prop:=∃ p:Pg,r = .agg p.cells∧DrP p∧rdL bs n 1000001 h
theorem typed (bs:List Int) (n:Nat) (hb:Fits .u8 bs) (hl:bs.length≤2000) (hn:n≤274000000000):DC Tryz.prog 72 [.c (.ptr 0 0)] [some (rdr bs n)] (tyR bs n):=by
  have hmx:=mx_eq
  have hpr:=l2Program bs n hb hl (by omega)
  generalize hR:tyR bs n=R
  have fin:∀ (p:Pg) (n':Nat) (hp:Hp),DrP p→n≤n'→n'≤n+1000001→hp 0=some (some (rdr bs n'))→RetOb 1 R (.agg p.cells) hp:=fun p n' hp h1 h2 h3 h4=>by
    refine RetOb.keep1 (d := .agg p.cells) (cs:=rdr bs n') (by rw [← hR];exact ⟨p,rfl,h1,n',h2,h3,rfl⟩) h4 (rdr_kf _ _) ?_
    intro c hc
    simp only [Pg.cells,isI,List.mem_cons,List.not_mem_nil,or_false] at hc
    rcases hc with rfl | rfl | rfl<;>rfl
  refine dcZ Tryz.func72 ?_
  simp only [go_sem,rdr]
  refine XK.callG [0] hpr ok42 (hhp_one rfl) (hbT ()) (fun d h' ⟨_,_,_,_,_,_,e⟩=>by subst e;simp) ?_
  rintro _ _ ⟨p,rfl,hp,n1,hn1,hn2,rfl⟩ _
  have hln:=prog_len hp.ok
  have hin:=inferS p (by omega) (by omega) (by have:=(body_of hp.ok).2;omega) 2 hp.sm
  obtain ⟨vs,ar,bd⟩:=p
  iterate 2 ((try (refine drvZ Tryz.func72 ?_;simp only [go_sem,renCs_rdr]));((with_reducible and_intros)<;>try exact sd))
  refine XK.callG [0] (pick bs n1 4 hb hl (by omega) (by simp only [InK];omega)) ok16 (hhp_one (by simp [upd,renCs_rdr])) (hbT ()) (fun d h' ⟨v,_,_,e⟩=>by subst e;simp) ?_
  rintro _ _ ⟨v,rfl,hpv,rfl⟩ _
  by_cases hv:v=0
  · subst hv
    iterate 4 ((try (refine drvZ Tryz.func72 ?_;simp only [go_sem,renCs_rdr]));((with_reducible and_intros)<;>try exact sd))
    exact fin ⟨vs,ar,bd⟩ (n1+1) _ hp (by omega) (by omega) rfl
  · have g1:(v=0)=False:=eq_false hv
    have g2:(v == 0)=false:=by simp [hv]
    iterate 4 ((try (refine drvZ Tryz.func72 ?_;simp only [go_sem,renCs_rdr,g1,g2]));((with_reducible and_intros)<;>try exact sd))
    refine XK.callG [] hin ok99 (fun i' x h=>by simp at h) (hbT ()) (fun d h' ⟨_,_,_,e,_⟩=>by subst e;simp) ?_
    rintro _ _ ⟨q,ok,rfl,rfl,hq⟩ _
    cases ok with
    | false =>
      obtain ⟨vs2,ar2,bd2⟩:=q
      iterate 5 ((try (refine drvZ Tryz.func72 ?_;simp only [go_sem,renCs_rdr]));((with_reducible and_intros)<;>try exact sd))
      exact fin ⟨vs,ar,bd⟩ (n1+1) _ hp (by omega) (by omega) rfl
    | true =>
      obtain ⟨g3,g4,g5,_⟩:=hq rfl
      have hp2:=hp.up g3 g4 g5
      obtain ⟨vs2,ar2,bd2⟩:=q
      iterate 5 ((try (refine drvZ Tryz.func72 ?_;simp only [go_sem,renCs_rdr]));((with_reducible and_intros)<;>try exact sd))
      exact fin ⟨vs2,ar2,bd2⟩ (n1+1) _ hp2 (by omega) (by omega) rfl
theorem rng_set {l:List Int} (h:∀ y ∈ l,0≤y∧y≤255) {i:Nat} {v:Int} (hv:0≤v∧v≤255):∀ y ∈ l.set i v,0≤y∧y≤255:=fun y hy=>by
  rcases List.mem_or_eq_of_mem_set hy with h1 | rfl
  · exact h y h1
  · exact hv
end Go.Proofs.YtoakidkcppinpaaGreat.CtD
namespace Go.Proofs.YtoakidkcppinpaaGreat.CtR
variable [Go.CT.Yn]
open Go Go.CT CtF
theorem clS_get (q : Int → Bool) (vs vals : List Int) (j : Nat) : ∀ n, (clS q vs vals n)[j]? = if j < n ∧ q (vs.getD j 0) = true ∧ j < vals.length then some 0 else vals[j]?
  | 0=>by rw [if_neg (by omega)];rfl
  | n+1=>by
    unfold clS
    have ih:=clS_get q vs vals j n
    have hl:=clS_len q vs vals n
    by_cases hq:q (vs.getD n 0)=true
    · rw [if_pos hq,List.getElem?_set,hl]
      by_cases e:n=j
      · subst e
        rw [if_pos rfl]
        by_cases h2:n<vals.length
        · rw [if_pos h2,if_pos ⟨by omega,hq,h2⟩]
        · rw [if_neg h2,if_neg (by omega),List.getElem?_eq_none (by omega)]
      · rw [if_neg e,ih]
        by_cases h3:j<n∧q (vs.getD j 0)=true∧j<vals.length
        · rw [if_pos h3,if_pos ⟨by omega,h3.2⟩]
        · rw [if_neg h3,if_neg (fun h=>h3 ⟨by omega,h.2⟩)]
    · rw [if_neg hq,ih]
      by_cases h3:j<n∧q (vs.getD j 0)=true∧j<vals.length
      · rw [if_pos h3,if_pos ⟨by omega,h3.2⟩]
      · rw [if_neg h3,if_neg (fun h=>h3 ⟨by
          rcases Nat.lt_or_ge j n with g | g
          · exact g
          · have:j=n:=by omega
            subst this;exact absurd h.2.1 hq,h.2⟩)]
open Go Go.CT CtF
open Go Go.CT CtF
end Go.Proofs.YtoakidkcppinpaaGreat.CtR
namespace Go.Proofs.YtoakidkcppinpaaGreat.CtD
open Go Go.CT CtF CtR
variable [Yn]
def nI (S:List Nat):List Int:=S.map fun (n:Nat)=>(n:Int)
theorem nI_len (S:List Nat):(nI S).length=S.length:=by simp [nI]
def bl (n N:Nat):List Bool:=(List.range n).map fun i=>N.testBit i
def rowsB (w:Nat) (S:List Nat):List (List C):=S.map fun N=>boolsC (bl w N)
theorem rowsB_len (w:Nat) (S:List Nat):(rowsB w S).length=S.length:=by simp [rowsB]
theorem rowsB_kf (w:Nat) (S:List Nat):∀ x ∈ rowsB w S,∀ c ∈ x,kf c=true:=fun x hx c hc=>by
  obtain ⟨N,_,rfl⟩:=List.mem_map.1 hx;exact boolsC_kf _ c hc
theorem fam_row {hp:Hp} {b w i:Nat} {S:List Nat} {row:List C} (hS:S.length≤32) (h:(rowsB w S)[i]? = some row):fam hp b (rowsB w S) (b+i)=some (some row):=by
  have:=(List.getElem?_eq_some_iff.1 h).1
  rw [rowsB_len] at this
  rw [fam_at (by omega),h];rfl
theorem SubH.rows {m : Nat} {r : Nat → Option Nat} {hl : List (Nat × Option (List C))} {hp : Hp} {b b' w : Nat} {S : List Nat} (hS : S.length ≤ 32) (hr : ∀ i, i < S.length → r (b + i) = some (b' + i))
    (hok:HpOK (fam (hOf hl) b (rowsB w S)) r (fam hp b' (rowsB w S)) [] hl) (hlow:LowOK r (fam (hOf hl) b (rowsB w S)) m) (hnd:((hl.filterMap fun p=>p.2.map fun _=>p.1).filterMap r).Nodup)
    (hdis:∀ p ∈ hl,∀ j,r p.1=some j→j<b'∨b' + 32≤j):SubH m r [] (fam (hOf hl) b (rowsB w S)) (fam hp b' (rowsB w S)):=by
  have hl0:=rowsB_len w S
  refine SubH.fam (fun n=>b' + n) (fun i hi=>hr i (by omega)) (fun i j hi hj h=>by omega) (fun i hi=>by simp) (fun i row hi=>fam_row hS hi) (rowsB_kf w S) hok hlow hnd ?_
  intro k j cs hm hj i hi e
  have:=hdis _ hm j hj
  omega
end Go.Proofs.YtoakidkcppinpaaGreat.CtD
namespace Go.Proofs.YtoakidkcppinpaaGreat.CtR
variable [Go.CT.Yn]
open Go Go.CT CtF
end Go.Proofs.YtoakidkcppinpaaGreat.CtR
