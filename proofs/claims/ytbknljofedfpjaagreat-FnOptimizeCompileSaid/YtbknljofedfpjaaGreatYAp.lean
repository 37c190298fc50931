/- Contracts of functions of the program, one behind the other, as plain data: what each call returns and which blocks it leaves. -/
import Derived.Test.YtbknljofedfpjaaGreatYFacts
import Derived.Test.YtbknljofedfpjaaGreatYAk
import Derived.Test.YtbknljofedfpjaaGreatYAm
import Derived.Test.YtbknljofedfpjaaGreatYAo
import Derived.Test.YtbknljofedfpjaaGreatYAi
import Derived.Test.YtbknljofedfpjaaGreatYAl
set_option linter.unusedVariables false
set_option linter.unusedSimpArgs false
set_option linter.unusedSectionVars false
set_option maxHeartbeats 16000000
set_option maxRecDepth 100000
namespace Go.Proofs.YtbknljofedfpjaaGreat.CtD
open Go Go.CT CtF CtR
variable [Yn]
theorem l2CopyExpr (e:Ex) (he:SmE e):DC Tryz.prog 180 [.agg e.cells] [] (fun r h=>r = .agg e.cells∧h=[]):=by
 have hmx:=mx_eq
 induction he with
 | mk k v ks hlen hall ih =>
  refine dcZ Tryz.func180 ?_
  simp only [go_sem]
  iterate 2 (try (refine drvZ Tryz.func180 ?_;simp only [go_sem]))
  refine Go.loopQ (fun i : Nat => [(1, .c (.ptr 0 0)), (2, .c (.ptr 64 0)), (3, .c (.ptr 66 0)), (4, DI .i64 i)])
   (fun i=>[(0,some (Ex.cells (.mk k v ks))),(64,some [I64 0,I64 0,.v (.slice none 0 0)]),(66,some [I64 k,I64 v,.msl 67 3 0 i]),(67,some (exC (ks.take i)))])
   4096 (fun i=>i≤ks.length) (fun i=>ks.length - i) ?_ 0 (fun j=>if j=66 then some 448 else if j=67 then none else some j) [] _ (Nat.zero_le _) ?_
  ·intro i hi again
   rcases Nat.lt_or_ge i ks.length with hlt | hge
   ·obtain ⟨⟨k',v',ks'⟩,hx⟩:∃ x,ks[i]? = some x:=⟨ks[i],by simp [hlt]⟩
    have hsx:ks.take (i+1)=ks.take i++[.mk k' v' ks']:=by rw [List.take_add_one,hx];rfl
    have hel:(exC (ks.take i)).length=i * 3:=by rw [exC_len,List.length_take];congr 1;omega
    refine drvL Tryz.func180 ?_
    simp only [go_sem,hx,hlt]
    (with_reducible and_intros)<;>try exact sd
    iterate 2 (try (refine drvZ Tryz.func180 ?_;simp only [go_sem,hx,hlt]))
    (with_reducible and_intros)<;>try exact sd
    refine XK.plain (ih _ (List.mem_of_getElem? hx)) ok180 ?_ (hbT ()) (fun _=>by kernel_rfl)
    iterate 3 (try (refine drvZ Tryz.func180 ?_;simp only [go_sem,hx,hlt]))
    (with_reducible and_intros)<;>try exact sd
    iterate 2 (try (refine drvZ Tryz.func180 ?_;simp only [go_sem,hx,hlt]))
    (with_reducible and_intros)<;>try exact sd
    refine again (i+1) (fun j=>if j=67 then some 4992 else some j) [] _ hlt (by omega) ?_
    simp only [go_sem,TmOK,DM,DMs,CM,CMs,forall_eq,exists_eq_left,Mq,HpOK,LowOK,hsx,exC_snoc]
    simp
    exact CMs.kf (kf_app (exC_kf _) (by simp [kf]))
   ·have hn:¬ i<ks.length:=by omega
    obtain rfl:i=ks.length:=by omega
    refine drvL Tryz.func180 ?_
    simp only [go_sem,hn,List.take_length]
    iterate 2 (try (refine drvZ Tryz.func180 ?_;simp only [go_sem,hn,List.take_length]))
    refine RetOb.ofQ (fun j=>none) [67] (.agg (Ex.cells (.mk k v ks))) [] ?_ ⟨rfl,rfl⟩ (by simp)
    have g1:(Ex.cellsL ks).flatten=exC ks:=by rw [Ex.cellsL_eq];rfl
    have g2:∀ x ∈ Ex.cellsL ks,x.length=3:=fun x hx=>by rw [Ex.cellsL_eq] at hx;obtain ⟨e,_,rfl⟩:=List.mem_map.1 hx;exact Ex.cells_len e
    have g3:∀ x ∈ Ex.cellsL ks,∀ c ∈ x,kf c=true:=fun x hx=>by rw [Ex.cellsL_eq] at hx;obtain ⟨e,_,rfl⟩:=List.mem_map.1 hx;exact ex_kf e
    simp only [enumL,hOf,DM,DMs,CM,CMs,HpOK,LowOK,upd,Ex.cells,Ex.cellsL_length,g1]
    first | (simp;exact ⟨g2,g3⟩) | (simp [g2];exact g3) | exact ⟨g2,g3⟩
  ·simp only [go_sem,TmOK,DM,DMs,CM,CMs,forall_eq,exists_eq_left,Mq,HpOK,LowOK]
   simp [exC]
def SmS : Nat → St1 → Prop
 | 0,.mk _ _ ix v _ b e=>SmE ix∧SmE v∧b=[]∧e=[]
 | d+1,.mk _ _ ix v _ b e=>SmE ix∧SmE v∧b.length≤4∧e.length≤4∧(∀ x ∈ b,SmS d x)∧∀ x ∈ e,SmS d x
def stC (l:List St1):List C:=(l.map St1.cells).flatten
theorem stC_len (l:List St1):(stC l).length=l.length * 11:=by
 unfold stC
 induction l with
 | nil=>rfl
 | cons a r ih=>simp only [List.map_cons,List.flatten_cons,List.length_append,ih,St1.cells_len,List.length_cons];omega
theorem st_kf (s:St1):∀ c ∈ s.cells,kf c=true:=by
 obtain ⟨k,t,ix,v,c,b,e⟩:=s
 intro x hx
 simp only [St1.cells,List.mem_append,List.mem_cons,List.not_mem_nil,or_false] at hx
 rcases hx with ((hx | hx) | hx) | hx
 ·rcases hx with rfl | rfl<;>rfl
 ·exact ex_kf _ _ hx
 ·exact ex_kf _ _ hx
 ·rcases hx with rfl | rfl | rfl<;>rfl
theorem stC_kf (l:List St1):∀ c ∈ stC l,kf c=true:=by
 unfold stC
 intro c hc
 obtain ⟨x,hx,hc⟩:=List.mem_flatten.1 hc
 obtain ⟨e,_,rfl⟩:=List.mem_map.1 hx
 exact st_kf e c hc
theorem stC_snoc (l:List St1) (s:St1):stC (l++[s])=stC l++s.cells:=by simp [stC]
theorem l2DrawBlockOf (bs : List Int) (p : Pg) (dep : Int) (Q : St1 → Prop) (K : Nat) (hK : K ≤ 1000000000)
 (hst:∀ n:Nat,n+K≤549755813888→DC Tryz.prog 128 [.c (.ptr 0 0),.agg p.cells,DI .i64 dep] [some (rdr bs n)] (fun r h=>∃ s:St1,r = .agg s.cells∧Q s∧rdL bs n K h))
 (n nn : Nat) (hnn : nn ≤ 4) (hn : n + 4 * K ≤ 549755813888) : DC Tryz.prog 85 [.c (.ptr 0 0), .agg p.cells, DI .i64 dep, DI .i64 nn] [some (rdr bs n)]
  (fun r h=>∃ l:List St1,r = .c (.isl 11 (St1.cellsL l))∧l.length≤4∧(∀ s ∈ l,Q s)∧rdL bs n (4 * K) h):=by
 have hmx:=mx_eq
 obtain ⟨vs,ar,bd⟩:=p
 refine dcZ Tryz.func85 ?_
 simp only [go_sem,rdr]
 iterate 2 (try (refine drvZ Tryz.func85 ?_;simp only [go_sem,rdr]))
 refine Go.loopQ (fun x : Nat × Nat × List St1 => [(0, .c (.ptr 0 0)), (2, DI .i64 dep), (3, DI .i64 nn), (5, .c (.ptr 1 0)), (9, .c (.msl 67 11 0 x.2.2.length)), (10, DI .i64 x.1)])
  (fun x=>[(0,some (rdr bs x.2.1)),(1,some (Pg.cells ⟨vs,ar,bd⟩)),(67,some (stC x.2.2))])
  4096 (fun x=>x.2.2.length=x.1∧x.1≤nn∧(∀ s ∈ x.2.2,Q s)∧n≤x.2.1∧x.2.1≤n+x.1 * K) (fun x=>nn - x.1) ?_ (0,n,[]) (fun j=>if j=67 then some 129 else some j) [] _ ⟨rfl,by simp,by simp,by simp,by simp⟩ ?_
 ·rintro ⟨i,pos,l⟩ ⟨hi1,hi2,hi3,hi4,hi5⟩ again
  simp only at hi1 hi2 hi3 hi4 hi5
  have hik:i * K≤4 * K:=Nat.mul_le_mul_right _ (by omega)
  rcases Nat.lt_or_ge i nn with hlt | hge
  ·have hsl:=stC_len l
   have hik2:(i+1) * K≤4 * K:=Nat.mul_le_mul_right _ (by omega)
   rw [Nat.add_mul,Nat.one_mul] at hik2
   refine drvL Tryz.func85 ?_
   simp only [go_sem,rdr,hlt]
   iterate 2 (try (refine drvZ Tryz.func85 ?_;simp only [go_sem,rdr,hlt]))
   refine XK.callG [0] (hst pos (by omega)) ok128 (hhp_one rfl) (hbT ()) (fun d h' ⟨_,_,_,_,_,_,e⟩=>by subst e;simp) ?_
   rintro _ _ ⟨⟨k,t,⟨ik,iv,iks⟩,⟨vk,vv,vks⟩,c,b,e⟩,rfl,hs,n',hn1,hn2,rfl⟩ _
   iterate 3 (try (refine drvZ Tryz.func85 ?_;simp only [go_sem,rdr]))
   (with_reducible and_intros)<;>try exact sd
   refine again (i+1,n',l++[(.mk k t (.mk ik iv iks) (.mk vk vv vks) c b e)]) (fun j=>if j=67 then some 4672 else some j) [] _ ⟨by simp;omega,by omega,?_,by simp only;omega,?_⟩ (by simp only;omega) ?_
   ·intro x hx
    rcases List.mem_append.1 hx with h | h
    ·exact hi3 x h
    ·rw [List.mem_singleton.1 h];exact hs
   ·simp only [Nat.add_mul,Nat.one_mul];omega
   ·simp only [go_sem,TmOK,DM,DMs,CM,CMs,forall_eq,exists_eq_left,Mq,HpOK,LowOK,rdr,stC_snoc,List.cons_append,List.nil_append]
    simp
    exact CMs.kf (kf_app (stC_kf _) (by simp [kf]))
  ·have hnl:¬ i<nn:=by omega
   refine drvL Tryz.func85 ?_
   simp only [go_sem,rdr,hnl]
   iterate 2 (try (refine drvZ Tryz.func85 ?_;simp only [go_sem,rdr,hnl]))
   refine RetOb.ofQ (fun j=>if j=0 then some 0 else none) [67] (.c (.isl 11 (St1.cellsL l))) [some (rdr bs pos)] ?_ ⟨l,rfl,by omega,hi3,pos,hi4,by omega,rfl⟩ (by simp)
   have g1:(St1.cellsL l).flatten=stC l:=by rw [St1.cellsL_eq];rfl
   have g2:∀ x ∈ St1.cellsL l,x.length=11:=fun x hx=>by rw [St1.cellsL_eq] at hx;obtain ⟨e,_,rfl⟩:=List.mem_map.1 hx;exact St1.cells_len e
   have g3:∀ x ∈ St1.cellsL l,∀ c ∈ x,kf c=true:=fun x hx=>by rw [St1.cellsL_eq] at hx;obtain ⟨e,_,rfl⟩:=List.mem_map.1 hx;exact st_kf e
   simp only [enumL,hOf,DM,DMs,CM,CMs,HpOK,LowOK,upd,rdr,St1.cellsL_length,g1]
   first | (simp;exact ⟨g2,g3⟩) | (simp [g2];exact g3) | exact ⟨g2,g3⟩
 ·simp only [go_sem,TmOK,DM,DMs,CM,CMs,forall_eq,exists_eq_left,Mq,HpOK,LowOK,rdr]
  simp [stC,CMs]
theorem l2CopyBlockOf (d : Nat) (ih : ∀ l : List St1, l.length ≤ 4 → (∀ s ∈ l, ∃ d', d = d' + 1 ∧ SmS d' s) → DC Tryz.prog 165 [.c (.isl 11 (St1.cellsL l))] [] (fun r h => r = .c (.isl 11 (St1.cellsL l)) ∧ h = []))
 (l:List St1) (hl:l.length≤1000000) (hs:∀ s ∈ l,SmS d s):DC Tryz.prog 165 [.c (.isl 11 (St1.cellsL l))] [] (fun r h=>r = .c (.isl 11 (St1.cellsL l))∧h=[]):=by
 have hmx:=mx_eq
 refine dcZ Tryz.func165 ?_
 simp only [go_sem]
 iterate 2 (try (refine drvZ Tryz.func165 ?_;simp only [go_sem]))
 refine Go.loopQ (fun i : Nat => [(0, .c (.isl 11 (St1.cellsL l))), (3, .c (.msl 67 11 0 i)), (4, DI .i64 i)]) (fun i => [(67, some (stC (l.take i)))])
  4096 (fun i=>i≤l.length) (fun i=>l.length - i) ?_ 0 (fun j=>if j=67 then some 64 else some j) [] _ (Nat.zero_le _) ?_
 ·intro i hi again
  rcases Nat.lt_or_ge i l.length with hlt | hge
  ·obtain ⟨⟨k,t,⟨ik,iv,iks⟩,⟨vk,vv,vks⟩,c,b,e⟩,hx⟩:∃ x,l[i]? = some x:=⟨l[i],by simp [hlt]⟩
   have hsx:l.take (i+1)=l.take i++[.mk k t (.mk ik iv iks) (.mk vk vv vks) c b e]:=by rw [List.take_add_one,hx];rfl
   have hel:(stC (l.take i)).length=i * 11:=by rw [stC_len,List.length_take];congr 1;omega
   have hsm:=hs _ (List.mem_of_getElem? hx)
   have hie:SmE (.mk ik iv iks)∧SmE (.mk vk vv vks):=by cases d<;>simp only [SmS] at hsm<;>exact ⟨hsm.1,hsm.2.1⟩
   have hbl:b.length≤4∧(∀ s ∈ b,∃ d',d=d' + 1∧SmS d' s):=by
    cases d with
    | zero=>simp only [SmS] at hsm;rw [hsm.2.2.1];simp
    | succ d=>simp only [SmS] at hsm;exact ⟨hsm.2.2.1,fun s h=>⟨d,rfl,hsm.2.2.2.2.1 s h⟩⟩
   have hel2:e.length≤4∧(∀ s ∈ e,∃ d',d=d' + 1∧SmS d' s):=by
    cases d with
    | zero=>simp only [SmS] at hsm;rw [hsm.2.2.2];simp
    | succ d=>simp only [SmS] at hsm;exact ⟨hsm.2.2.2.1,fun s h=>⟨d,rfl,hsm.2.2.2.2.2 s h⟩⟩
   refine drvL Tryz.func165 ?_
   simp only [go_sem,hx,hlt]
   iterate 2 (try (refine drvZ Tryz.func165 ?_;simp only [go_sem,hx,hlt]))
   refine XK.plain (l2CopyExpr _ hie.1) ok180 ?_ (hbT ())
   iterate 2 (try (refine drvZ Tryz.func165 ?_;simp only [go_sem]))
   refine XK.plain (l2CopyExpr _ hie.2) ok180 ?_ (hbT ())
   iterate 2 (try (refine drvZ Tryz.func165 ?_;simp only [go_sem]))
   refine XK.plain (ih b hbl.1 hbl.2) ok165 ?_ (hbT ())
   iterate 2 (try (refine drvZ Tryz.func165 ?_;simp only [go_sem]))
   refine XK.plain (ih e hel2.1 hel2.2) ok165 ?_ (hbT ())
   iterate 3 (try (refine drvZ Tryz.func165 ?_;simp only [go_sem]))
   (with_reducible and_intros)<;>try exact sd
   iterate 2 (try (refine drvZ Tryz.func165 ?_;simp only [go_sem]))
   (with_reducible and_intros)<;>try exact sd
   refine again (i+1) (fun j=>if j=67 then some 6208 else some j) [] _ hlt (by omega) ?_
   simp only [go_sem,TmOK,DM,DMs,CM,CMs,forall_eq,exists_eq_left,Mq,HpOK,LowOK,hsx,stC_snoc,List.cons_append,List.nil_append]
   simp
   exact CMs.kf (kf_app (stC_kf _) (by simp [kf]))
  ·have hn:¬ i<l.length:=by omega
   obtain rfl:i=l.length:=by omega
   refine drvL Tryz.func165 ?_
   simp only [go_sem,hn,List.take_length]
   iterate 2 (try (refine drvZ Tryz.func165 ?_;simp only [go_sem,hn,List.take_length]))
   refine RetOb.ofQ (fun j=>none) [67] (.c (.isl 11 (St1.cellsL l))) [] ?_ ⟨rfl,rfl⟩ (by simp)
   have g1:(St1.cellsL l).flatten=stC l:=by rw [St1.cellsL_eq];rfl
   have g2:∀ x ∈ St1.cellsL l,x.length=11:=fun x hx=>by rw [St1.cellsL_eq] at hx;obtain ⟨e,_,rfl⟩:=List.mem_map.1 hx;exact St1.cells_len e
   have g3:∀ x ∈ St1.cellsL l,∀ c ∈ x,kf c=true:=fun x hx=>by rw [St1.cellsL_eq] at hx;obtain ⟨e,_,rfl⟩:=List.mem_map.1 hx;exact st_kf e
   simp only [enumL,hOf,DM,DMs,CM,CMs,HpOK,LowOK,upd,St1.cellsL_length,g1]
   first | (simp;exact ⟨g2,g3⟩) | (simp [g2];exact g3) | exact ⟨g2,g3⟩
 ·simp only [go_sem,TmOK,DM,DMs,CM,CMs,forall_eq,exists_eq_left,Mq,HpOK,LowOK]
  simp [stC,CMs]
theorem copyNil:DC Tryz.prog 165 [.c (.isl 11 (St1.cellsL []))] [] (fun r h=>r = .c (.isl 11 (St1.cellsL []))∧h=[]):=by
 refine dcZ Tryz.func165 ?_
 simp only [go_sem,St1.cellsL]
 iterate 2 (try (refine drvZ Tryz.func165 ?_;simp only [go_sem,St1.cellsL]))
 refine Go.loop ?_
 refine drvL Tryz.func165 ?_
 simp only [go_sem,St1.cellsL]
 iterate 2 (try (refine drvZ Tryz.func165 ?_;simp only [go_sem,St1.cellsL]))
 refine RetOb.ofQ (fun j=>none) [64] (.c (.isl 11 [])) [] ?_ ⟨rfl,rfl⟩ (by simp)
 simp [enumL,hOf,DM,CM,HpOK,LowOK,upd]
theorem l2CopyBlock : ∀ (d : Nat) (l : List St1), l.length ≤ 1000000 → (∀ s ∈ l, SmS d s) → DC Tryz.prog 165 [.c (.isl 11 (St1.cellsL l))] [] (fun r h => r = .c (.isl 11 (St1.cellsL l)) ∧ h = [])
 | 0,l,h1,h2=>l2CopyBlockOf 0 (fun l' h3 h4=>by
  cases l' with
  | nil=>exact copyNil
  | cons a r=>obtain ⟨d',e,_⟩:=h4 a (by simp);omega) l h1 h2
 | d+1,l,h1,h2=>l2CopyBlockOf (d+1) (fun l' h3 h4=>l2CopyBlock d l' (by omega) (fun s hs=>by
  obtain ⟨d',e,h⟩:=h4 s hs
  obtain rfl:d=d':=by omega
  exact h)) l h1 h2
theorem l2CopyBlockOwnOf (d : Nat) (ih : ∀ l : List St1, l.length ≤ 4 → (∀ s ∈ l, ∃ d', d = d' + 1 ∧ SmS d' s) → DC Tryz.prog 165 [.c (.isl 11 (St1.cellsL l))] [] (fun r h => r = .c (.isl 11 (St1.cellsL l)) ∧ h = []))
 (l:List St1) (hl:l.length≤1000000) (hs:∀ s ∈ l,SmS d s):DC Tryz.prog 165 [.c (.isl 11 (St1.cellsL l))] [] (fun r h=>r = .c (.msl 0 11 0 l.length)∧h=[some (stC l)]):=by
 have hmx:=mx_eq
 refine dcZ Tryz.func165 ?_
 simp only [go_sem]
 iterate 2 (try (refine drvZ Tryz.func165 ?_;simp only [go_sem]))
 refine Go.loopQ (fun i : Nat => [(0, .c (.isl 11 (St1.cellsL l))), (3, .c (.msl 67 11 0 i)), (4, DI .i64 i)]) (fun i => [(67, some (stC (l.take i)))])
  4096 (fun i=>i≤l.length) (fun i=>l.length - i) ?_ 0 (fun j=>if j=67 then some 64 else some j) [] _ (Nat.zero_le _) ?_
 ·intro i hi again
  rcases Nat.lt_or_ge i l.length with hlt | hge
  ·obtain ⟨⟨k,t,⟨ik,iv,iks⟩,⟨vk,vv,vks⟩,c,b,e⟩,hx⟩:∃ x,l[i]? = some x:=⟨l[i],by simp [hlt]⟩
   have hsx:l.take (i+1)=l.take i++[.mk k t (.mk ik iv iks) (.mk vk vv vks) c b e]:=by rw [List.take_add_one,hx];rfl
   have hel:(stC (l.take i)).length=i * 11:=by rw [stC_len,List.length_take];congr 1;omega
   have hsm:=hs _ (List.mem_of_getElem? hx)
   have hie:SmE (.mk ik iv iks)∧SmE (.mk vk vv vks):=by cases d<;>simp only [SmS] at hsm<;>exact ⟨hsm.1,hsm.2.1⟩
   have hbl:b.length≤4∧(∀ s ∈ b,∃ d',d=d' + 1∧SmS d' s):=by
    cases d with
    | zero=>simp only [SmS] at hsm;rw [hsm.2.2.1];simp
    | succ d=>simp only [SmS] at hsm;exact ⟨hsm.2.2.1,fun s h=>⟨d,rfl,hsm.2.2.2.2.1 s h⟩⟩
   have hel2:e.length≤4∧(∀ s ∈ e,∃ d',d=d' + 1∧SmS d' s):=by
    cases d with
    | zero=>simp only [SmS] at hsm;rw [hsm.2.2.2];simp
    | succ d=>simp only [SmS] at hsm;exact ⟨hsm.2.2.2.1,fun s h=>⟨d,rfl,hsm.2.2.2.2.2 s h⟩⟩
   refine drvL Tryz.func165 ?_
   simp only [go_sem,hx,hlt]
   iterate 2 (try (refine drvZ Tryz.func165 ?_;simp only [go_sem,hx,hlt]))
   refine XK.plain (l2CopyExpr _ hie.1) ok180 ?_ (hbT ())
   iterate 2 (try (refine drvZ Tryz.func165 ?_;simp only [go_sem]))
   refine XK.plain (l2CopyExpr _ hie.2) ok180 ?_ (hbT ())
   iterate 2 (try (refine drvZ Tryz.func165 ?_;simp only [go_sem]))
   refine XK.plain (ih b hbl.1 hbl.2) ok165 ?_ (hbT ())
   iterate 2 (try (refine drvZ Tryz.func165 ?_;simp only [go_sem]))
   refine XK.plain (ih e hel2.1 hel2.2) ok165 ?_ (hbT ())
   iterate 3 (try (refine drvZ Tryz.func165 ?_;simp only [go_sem]))
   (with_reducible and_intros)<;>try exact sd
   iterate 2 (try (refine drvZ Tryz.func165 ?_;simp only [go_sem]))
   (with_reducible and_intros)<;>try exact sd
   refine again (i+1) (fun j=>if j=67 then some 6208 else some j) [] _ hlt (by omega) ?_
   simp only [go_sem,TmOK,DM,DMs,CM,CMs,forall_eq,exists_eq_left,Mq,HpOK,LowOK,hsx,stC_snoc,List.cons_append,List.nil_append]
   simp
   exact CMs.kf (kf_app (stC_kf _) (by simp [kf]))
  ·have hn:¬ i<l.length:=by omega
   obtain rfl:i=l.length:=by omega
   refine drvL Tryz.func165 ?_
   simp only [go_sem,hn,List.take_length]
   iterate 2 (try (refine drvZ Tryz.func165 ?_;simp only [go_sem,hn,List.take_length]))
   refine RetOb.ofQ (fun j=>if j=0 then some 67 else none) [] (.c (.msl 0 11 0 l.length)) [some (stC l)] ?_ ⟨rfl,rfl⟩ (by simp)
   simp [enumL,hOf,DM,CM,HpOK,LowOK,upd]
   exact CMs.kf (stC_kf _)
 ·simp only [go_sem,TmOK,DM,DMs,CM,CMs,forall_eq,exists_eq_left,Mq,HpOK,LowOK]
  simp [stC,CMs]
theorem l2CopyBlockOwn (d:Nat) (l:List St1) (h1:l.length≤1000000) (h2:∀ s ∈ l,SmS d s):DC Tryz.prog 165 [.c (.isl 11 (St1.cellsL l))] [] (fun r h=>r = .c (.msl 0 11 0 l.length)∧h=[some (stC l)]) :=
 l2CopyBlockOwnOf d (fun l' h3 h4=>by
  cases d with
  | zero=>cases l' with
   | nil=>exact copyNil
   | cons a r=>obtain ⟨d',e,_⟩:=h4 a (by simp);omega
  | succ d=>exact l2CopyBlock d l' (by omega) (fun s hs=>by
   obtain ⟨d',e,h⟩:=h4 s hs
   obtain rfl:d=d':=by omega
   exact h)) l h1 h2
def KS : Nat → Nat
 | 0=>1200
 | d+1=>1200+8 * KS d
theorem KS_ge : ∀ d, 1200 ≤ KS d
 | 0=>Nat.le_refl _
 | d+1=>by simp only [KS];omega
theorem KS_le : ∀ d, d ≤ 3 → KS d ≤ 1000000
 | 0,_=>by decide
 | 1,_=>by decide
 | 2,_=>by decide
 | 3,_=>by decide
def Ex0:Ex := .mk 0 0 []
theorem SmE0:SmE Ex0 := .mk 0 0 [] (by simp) (fun x h=>by simp at h)
theorem SmS.leaf {d:Nat} {k t c:Int} {ix v:Ex} (h1:SmE ix) (h2:SmE v):SmS d (.mk k t ix v c [] []):=by
 cases d<;>simp [SmS,h1,h2]
def stR (bs:List Int) (n d:Nat) (r:D) (h:List (Option (List C))):Prop:=∃ s:St1,r = .agg s.cells∧SmS d s∧rdL bs n (KS d) h
theorem l2DrawStmtOf (bs : List Int) (p : Pg) (hb : Fits .u8 bs) (hl : bs.length ≤ 2000) (hp : p.vars.length ≤ mx) (hp2 : p.arrays.length ≤ mx) (d : Nat) (hd : d ≤ 3)
 (ih : ∀ d', d = d' + 1 → ∀ (n nn : Nat), nn ≤ 4 → n + 4 * KS d' ≤ 549755813888 → DC Tryz.prog 85 [.c (.ptr 0 0), .agg p.cells, DI .i64 (d' + 1 : Nat), DI .i64 nn] [some (rdr bs n)]
  (fun r h=>∃ l:List St1,r = .c (.isl 11 (St1.cellsL l))∧l.length≤4∧(∀ s ∈ l,SmS d' s)∧rdL bs n (4 * KS d') h))
 (n:Nat) (hn:n+KS d≤549755813888):DC Tryz.prog 128 [.c (.ptr 0 0),.agg p.cells,DI .i64 (d+1:Nat)] [some (rdr bs n)] (stR bs n d):=by
 have hmx:=mx_eq
 have hat:=fun n h=>l2DrawAtom bs n p hb hl h hp
 have hsm:=fun n h=>l2Small bs n p hb hl hp hp2 h
 have hKS:=KS_ge d
 have hKS2:=KS_le d hd
 generalize hR:stR bs n d=R
 obtain ⟨vs,ar,bd⟩:=p
 have hp:vs.length≤mx:=hp
 have hp2:ar.length≤mx:=hp2
 refine dcZ Tryz.func128 ?_
 simp only [go_sem,rdr]
 (with_reducible and_intros)<;>try exact sd
 refine XK.callG [0,193] (numO bs n [1,1,2,3,4,1,3,5] hb hl (by omega) (by decide) (by decide)) ok73 (hhp2 rfl rfl) (hbT ()) (fun d h' ⟨_,_,_,e⟩=>by subst e;simp) ?_
 rintro _ _ ⟨kv,rfl,hkv,rfl⟩ _
 simp only [List.mem_cons,List.not_mem_nil,or_false] at hkv
 have hk:kv=2∧0<ar.length∨kv=3∧0<d∨kv=4∧0<d∨(kv=1∨kv=5∨kv=2∧ar.length=0∨kv=3∧d=0∨kv=4∧d=0):=by omega
 clear hkv
 rcases hk with ⟨rfl,hal⟩ | ⟨rfl,hdl⟩ | ⟨rfl,hdl⟩ | hk
 ·have e1:((0:Int)<(ar.length:Int))=True:=eq_true (by omega)
  iterate 5 (try (refine drvZ Tryz.func128 ?_;simp only [go_sem,rdr,e1]))
  refine XK.callG [0] (pick bs (n+1) ar.length hb hl (by omega) (by simp only [InK];omega)) ok71 (hhp_one rfl) (hbT ()) (fun d h' ⟨v,_,_,e⟩=>by subst e;simp) ?_
  rintro _ _ ⟨v1,rfl,hv1,rfl⟩ _
  iterate 2 (try (refine drvZ Tryz.func128 ?_;simp only [go_sem,rdr]))
  refine XK.callG [0] (hat (n+2) (by omega)) ok156 (hhp_one rfl) (hbT ()) (fun d h' ⟨_,_,_,_,_,_,e⟩=>by subst e;simp) ?_
  rintro _ _ ⟨⟨k1,w1,ks1⟩,rfl,he1,n1,hn1,hm1,rfl⟩ _
  iterate 2 (try (refine drvZ Tryz.func128 ?_;simp only [go_sem,rdr]))
  refine XK.callG [0] (hsm n1 (by omega)) ok157 (hhp_one rfl) (hbT ()) (fun d h' ⟨_,_,_,_,_,_,e⟩=>by subst e;simp) ?_
  rintro _ _ ⟨⟨k2,w2,ks2⟩,rfl,he2,n2,hn2,hm2,rfl⟩ _
  iterate 2 (try (refine drvZ Tryz.func128 ?_;simp only [go_sem,rdr]))
  refine RetOb.ofQ (fun j=>if j=0 then some 0 else none) [] (.agg (St1.cells (.mk 2 v1 (.mk k1 w1 ks1) (.mk k2 w2 ks2) 0 [] []))) [some (rdr bs n2)] ?_ ?_ (by simp)
  ·simp [enumL,hOf,DM,DMs,CM,CMs,HpOK,LowOK,upd,Ex.cells,Ex.cellsL,St1.cells,St1.cellsL,rdr,kf]
  ·rw [← hR];exact ⟨.mk 2 v1 (.mk k1 w1 ks1) (.mk k2 w2 ks2) 0 [] [],rfl,SmS.leaf (SmE.atom he1) he2,n2,by omega,by omega,rfl⟩
 ·obtain ⟨d',rfl⟩:∃ d',d=d' + 1:=⟨d - 1,by omega⟩
  have hKK:KS (d' + 1)=1200+8 * KS d':=rfl
  have e1:((1:Int)<((d':Int)+1+1))=True:=eq_true (by omega)
  iterate 5 (try (refine drvZ Tryz.func128 ?_;simp only [go_sem,rdr,e1]))
  refine XK.callG [0] (hsm (n+1) (by omega)) ok157 (hhp_one rfl) (hbT ()) (fun d h' ⟨_,_,_,_,_,_,e⟩=>by subst e;simp) ?_
  rintro _ _ ⟨⟨k2,w2,ks2⟩,rfl,he2,n2,hn2,hm2,rfl⟩ _
  iterate 2 (try (refine drvZ Tryz.func128 ?_;simp only [go_sem,rdr]))
  (with_reducible and_intros)<;>try exact sd
  refine XK.callG [0,2305] (numO bs n2 [1,2,1,0] hb hl (by omega) (by decide) (by decide)) ok73 (hhp2 rfl rfl) (hbT ()) (fun d h' ⟨_,_,_,e⟩=>by subst e;simp) ?_ (fun _=>⟨by kernel_rfl,_,_,⟨1,rfl,by simp,rfl⟩,by simp⟩)
  rintro _ _ ⟨nv,rfl,hnv,rfl⟩ _
  iterate 2 (try (refine drvZ Tryz.func128 ?_;simp only [go_sem,rdr]))
  (with_reducible and_intros)<;>try exact sd
  obtain ⟨nn1,rfl,hnn1⟩:∃ a:Nat,nv=(a:Int)∧a≤4:=⟨nv.toNat,by simp at hnv;omega,by simp at hnv;omega⟩
  refine XK.callG [0] (ih d' rfl (n2+1) nn1 hnn1 (by omega)) ok85 (hhp_one rfl) (hbT ()) (fun d h' ⟨_,_,_,_,_,_,_,e⟩=>by subst e;simp) ?_ (fun _=>⟨by kernel_rfl,_,_,⟨[],rfl,by simp,by simp,(n2+1),by omega,by omega,rfl⟩,by simp⟩)
  rintro _ _ ⟨l1,rfl,hl1,hs1,m1,hp1,hq1,rfl⟩ _
  iterate 3 (try (refine drvZ Tryz.func128 ?_;simp only [go_sem,rdr]))
  (with_reducible and_intros)<;>try exact sd
  refine XK.callG [0,2945] (numO bs m1 [0,1,0,2] hb hl (by omega) (by decide) (by decide)) ok73 (hhp2 rfl rfl) (hbT ()) (fun d h' ⟨_,_,_,e⟩=>by subst e;simp) ?_ (fun _=>⟨by kernel_rfl,_,_,⟨1,rfl,by simp,rfl⟩,by simp⟩)
  rintro _ _ ⟨nv,rfl,hnv,rfl⟩ _
  iterate 2 (try (refine drvZ Tryz.func128 ?_;simp only [go_sem,rdr]))
  (with_reducible and_intros)<;>try exact sd
  obtain ⟨nn3,rfl,hnn3⟩:∃ a:Nat,nv=(a:Int)∧a≤4:=⟨nv.toNat,by simp at hnv;omega,by simp at hnv;omega⟩
  refine XK.callG [0] (ih d' rfl (m1+1) nn3 hnn3 (by omega)) ok85 (hhp_one rfl) (hbT ()) (fun d h' ⟨_,_,_,_,_,_,_,e⟩=>by subst e;simp) ?_ (fun _=>⟨by kernel_rfl,_,_,⟨[],rfl,by simp,by simp,(m1+1),by omega,by omega,rfl⟩,by simp⟩)
  rintro _ _ ⟨l3,rfl,hl3,hs3,m3,hp3,hq3,rfl⟩ _
  iterate 3 (try (refine drvZ Tryz.func128 ?_;simp only [go_sem,rdr]))
  (with_reducible and_intros)<;>try exact sd
  refine RetOb.ofQ (fun j=>if j=0 then some 0 else none) [] (.agg (St1.cells (.mk 3 0 Ex0 (.mk k2 w2 ks2) 0 l1 l3))) [some (rdr bs m3)] ?_ ?_ (by simp)
  ·simp [enumL,hOf,DM,DMs,CM,CMs,HpOK,LowOK,upd,Ex.cells,Ex.cellsL,St1.cells,St1.cellsL,Ex0,rdr,kf]
  ·rw [← hR];exact ⟨.mk 3 0 Ex0 (.mk k2 w2 ks2) 0 l1 l3,rfl,⟨SmE0,he2,hl1,hl3,hs1,hs3⟩,m3,by omega,by omega,rfl⟩
 ·obtain ⟨d',rfl⟩:∃ d',d=d' + 1:=⟨d - 1,by omega⟩
  have hKK:KS (d' + 1)=1200+8 * KS d':=rfl
  have e1:((1:Int)<((d':Int)+1+1))=True:=eq_true (by omega)
  iterate 9 (try (refine drvZ Tryz.func128 ?_;simp only [go_sem,rdr,e1]))
  (with_reducible and_intros)<;>try exact sd
  refine XK.callG [0,2177] (numO bs (n+1) [2,1,3] hb hl (by omega) (by decide) (by decide)) ok73 (hhp2 rfl rfl) (hbT ()) (fun d h' ⟨_,_,_,e⟩=>by subst e;simp) ?_ (fun _=>⟨by kernel_rfl,_,_,⟨1,rfl,by simp,rfl⟩,by simp⟩)
  rintro _ _ ⟨cv,rfl,hcv,rfl⟩ _
  iterate 3 (try (refine drvZ Tryz.func128 ?_;simp only [go_sem,rdr]))
  (with_reducible and_intros)<;>try exact sd
  refine XK.callG [0,2753] (numO bs (n+2) [1,2,1] hb hl (by omega) (by decide) (by decide)) ok73 (hhp2 rfl rfl) (hbT ()) (fun d h' ⟨_,_,_,e⟩=>by subst e;simp) ?_ (fun _=>⟨by kernel_rfl,_,_,⟨1,rfl,by simp,rfl⟩,by simp⟩)
  rintro _ _ ⟨nv,rfl,hnv,rfl⟩ _
  iterate 2 (try (refine drvZ Tryz.func128 ?_;simp only [go_sem,rdr]))
  (with_reducible and_intros)<;>try exact sd
  obtain ⟨nn1,rfl,hnn1⟩:∃ a:Nat,nv=(a:Int)∧a≤4:=⟨nv.toNat,by simp at hnv;omega,by simp at hnv;omega⟩
  refine XK.callG [0] (ih d' rfl (n+3) nn1 hnn1 (by omega)) ok85 (hhp_one rfl) (hbT ()) (fun d h' ⟨_,_,_,_,_,_,_,e⟩=>by subst e;simp) ?_ (fun _=>⟨by kernel_rfl,_,_,⟨[],rfl,by simp,by simp,(n+3),by omega,by omega,rfl⟩,by simp⟩)
  rintro _ _ ⟨l1,rfl,hl1,hs1,m1,hp1,hq1,rfl⟩ _
  iterate 3 (try (refine drvZ Tryz.func128 ?_;simp only [go_sem,rdr]))
  (with_reducible and_intros)<;>try exact sd
  refine RetOb.ofQ (fun j=>if j=0 then some 0 else none) [] (.agg (St1.cells (.mk 4 0 Ex0 Ex0 cv l1 []))) [some (rdr bs m1)] ?_ ?_ (by simp)
  ·simp [enumL,hOf,DM,DMs,CM,CMs,HpOK,LowOK,upd,Ex.cells,Ex.cellsL,St1.cells,St1.cellsL,Ex0,rdr,kf]
  ·rw [← hR];exact ⟨.mk 4 0 Ex0 Ex0 cv l1 [],rfl,⟨SmE0,SmE0,hl1,by simp,hs1,by simp⟩,m1,by omega,by omega,rfl⟩
 ·rcases hk with rfl | rfl | ⟨rfl,ha0⟩ | ⟨rfl,rfl⟩ | ⟨rfl,rfl⟩
  ·skip
   iterate 10 (try (refine drvZ Tryz.func128 ?_;simp only [go_sem,rdr]))
   refine XK.callG [0] (pick bs (n+1) vs.length hb hl (by omega) (by simp only [InK];omega)) ok71 (hhp_one rfl) (hbT ()) (fun d h' ⟨v,_,_,e⟩=>by subst e;simp) ?_
   rintro _ _ ⟨v1,rfl,hv1,rfl⟩ _
   iterate 2 (try (refine drvZ Tryz.func128 ?_;simp only [go_sem,rdr]))
   refine XK.callG [0] (hsm (n+2) (by omega)) ok157 (hhp_one rfl) (hbT ()) (fun d h' ⟨_,_,_,_,_,_,e⟩=>by subst e;simp) ?_
   rintro _ _ ⟨⟨k2,w2,ks2⟩,rfl,he2,n2,hn2,hm2,rfl⟩ _
   iterate 2 (try (refine drvZ Tryz.func128 ?_;simp only [go_sem,rdr]))
   refine RetOb.ofQ (fun j=>if j=0 then some 0 else none) [] (.agg (St1.cells (.mk 1 v1 Ex0 (.mk k2 w2 ks2) 0 [] []))) [some (rdr bs n2)] ?_ ?_ (by simp)
   ·simp [enumL,hOf,DM,DMs,CM,CMs,HpOK,LowOK,upd,Ex.cells,Ex.cellsL,St1.cells,St1.cellsL,Ex0,rdr,kf]
   ·rw [← hR];exact ⟨.mk 1 v1 Ex0 (.mk k2 w2 ks2) 0 [] [],rfl,SmS.leaf SmE0 he2,n2,by omega,by omega,rfl⟩
  ·skip
   iterate 10 (try (refine drvZ Tryz.func128 ?_;simp only [go_sem,rdr]))
   refine XK.callG [0] (pick bs (n+1) vs.length hb hl (by omega) (by simp only [InK];omega)) ok71 (hhp_one rfl) (hbT ()) (fun d h' ⟨v,_,_,e⟩=>by subst e;simp) ?_
   rintro _ _ ⟨v1,rfl,hv1,rfl⟩ _
   iterate 2 (try (refine drvZ Tryz.func128 ?_;simp only [go_sem,rdr]))
   refine XK.callG [0] (hsm (n+2) (by omega)) ok157 (hhp_one rfl) (hbT ()) (fun d h' ⟨_,_,_,_,_,_,e⟩=>by subst e;simp) ?_
   rintro _ _ ⟨⟨k2,w2,ks2⟩,rfl,he2,n2,hn2,hm2,rfl⟩ _
   iterate 2 (try (refine drvZ Tryz.func128 ?_;simp only [go_sem,rdr]))
   refine RetOb.ofQ (fun j=>if j=0 then some 0 else none) [] (.agg (St1.cells (.mk 5 v1 Ex0 (.mk k2 w2 ks2) 0 [] []))) [some (rdr bs n2)] ?_ ?_ (by simp)
   ·simp [enumL,hOf,DM,DMs,CM,CMs,HpOK,LowOK,upd,Ex.cells,Ex.cellsL,St1.cells,St1.cellsL,Ex0,rdr,kf]
   ·rw [← hR];exact ⟨.mk 5 v1 Ex0 (.mk k2 w2 ks2) 0 [] [],rfl,SmS.leaf SmE0 he2,n2,by omega,by omega,rfl⟩
  ·skip
   have e1:((0:Int)<(ar.length:Int))=False:=eq_false (by omega)
   iterate 10 (try (refine drvZ Tryz.func128 ?_;simp only [go_sem,rdr,e1]))
   refine XK.callG [0] (pick bs (n+1) vs.length hb hl (by omega) (by simp only [InK];omega)) ok71 (hhp_one rfl) (hbT ()) (fun d h' ⟨v,_,_,e⟩=>by subst e;simp) ?_
   rintro _ _ ⟨v1,rfl,hv1,rfl⟩ _
   iterate 2 (try (refine drvZ Tryz.func128 ?_;simp only [go_sem,rdr]))
   refine XK.callG [0] (hsm (n+2) (by omega)) ok157 (hhp_one rfl) (hbT ()) (fun d h' ⟨_,_,_,_,_,_,e⟩=>by subst e;simp) ?_
   rintro _ _ ⟨⟨k2,w2,ks2⟩,rfl,he2,n2,hn2,hm2,rfl⟩ _
   iterate 2 (try (refine drvZ Tryz.func128 ?_;simp only [go_sem,rdr]))
   refine RetOb.ofQ (fun j=>if j=0 then some 0 else none) [] (.agg (St1.cells (.mk 1 v1 Ex0 (.mk k2 w2 ks2) 0 [] []))) [some (rdr bs n2)] ?_ ?_ (by simp)
   ·simp [enumL,hOf,DM,DMs,CM,CMs,HpOK,LowOK,upd,Ex.cells,Ex.cellsL,St1.cells,St1.cellsL,Ex0,rdr,kf]
   ·rw [← hR];exact ⟨.mk 1 v1 Ex0 (.mk k2 w2 ks2) 0 [] [],rfl,SmS.leaf SmE0 he2,n2,by omega,by omega,rfl⟩
  ·simp only [Int.natCast_zero]
   have e1:((1:Int)<((0:Int)+1))=False:=eq_false (by omega)
   iterate 10 (try (refine drvZ Tryz.func128 ?_;simp only [go_sem,rdr,e1]))
   refine XK.callG [0] (pick bs (n+1) vs.length hb hl (by omega) (by simp only [InK];omega)) ok71 (hhp_one rfl) (hbT ()) (fun d h' ⟨v,_,_,e⟩=>by subst e;simp) ?_
   rintro _ _ ⟨v1,rfl,hv1,rfl⟩ _
   iterate 2 (try (refine drvZ Tryz.func128 ?_;simp only [go_sem,rdr]))
   refine XK.callG [0] (hsm (n+2) (by omega)) ok157 (hhp_one rfl) (hbT ()) (fun d h' ⟨_,_,_,_,_,_,e⟩=>by subst e;simp) ?_
   rintro _ _ ⟨⟨k2,w2,ks2⟩,rfl,he2,n2,hn2,hm2,rfl⟩ _
   iterate 2 (try (refine drvZ Tryz.func128 ?_;simp only [go_sem,rdr]))
   refine RetOb.ofQ (fun j=>if j=0 then some 0 else none) [] (.agg (St1.cells (.mk 1 v1 Ex0 (.mk k2 w2 ks2) 0 [] []))) [some (rdr bs n2)] ?_ ?_ (by simp)
   ·simp [enumL,hOf,DM,DMs,CM,CMs,HpOK,LowOK,upd,Ex.cells,Ex.cellsL,St1.cells,St1.cellsL,Ex0,rdr,kf]
   ·rw [← hR];exact ⟨.mk 1 v1 Ex0 (.mk k2 w2 ks2) 0 [] [],rfl,SmS.leaf SmE0 he2,n2,by omega,by omega,rfl⟩
  ·simp only [Int.natCast_zero]
   have e1:((1:Int)<((0:Int)+1))=False:=eq_false (by omega)
   iterate 10 (try (refine drvZ Tryz.func128 ?_;simp only [go_sem,rdr,e1]))
   refine XK.callG [0] (pick bs (n+1) vs.length hb hl (by omega) (by simp only [InK];omega)) ok71 (hhp_one rfl) (hbT ()) (fun d h' ⟨v,_,_,e⟩=>by subst e;simp) ?_
   rintro _ _ ⟨v1,rfl,hv1,rfl⟩ _
   iterate 2 (try (refine drvZ Tryz.func128 ?_;simp only [go_sem,rdr]))
   refine XK.callG [0] (hsm (n+2) (by omega)) ok157 (hhp_one rfl) (hbT ()) (fun d h' ⟨_,_,_,_,_,_,e⟩=>by subst e;simp) ?_
   rintro _ _ ⟨⟨k2,w2,ks2⟩,rfl,he2,n2,hn2,hm2,rfl⟩ _
   iterate 2 (try (refine drvZ Tryz.func128 ?_;simp only [go_sem,rdr]))
   refine RetOb.ofQ (fun j=>if j=0 then some 0 else none) [] (.agg (St1.cells (.mk 1 v1 Ex0 (.mk k2 w2 ks2) 0 [] []))) [some (rdr bs n2)] ?_ ?_ (by simp)
   ·simp [enumL,hOf,DM,DMs,CM,CMs,HpOK,LowOK,upd,Ex.cells,Ex.cellsL,St1.cells,St1.cellsL,Ex0,rdr,kf]
   ·rw [← hR];exact ⟨.mk 1 v1 Ex0 (.mk k2 w2 ks2) 0 [] [],rfl,SmS.leaf SmE0 he2,n2,by omega,by omega,rfl⟩
theorem draws (bs:List Int) (p:Pg) (hb:Fits .u8 bs) (hl:bs.length≤2000) (hp:p.vars.length≤mx) (hp2:p.arrays.length≤mx):∀ (d:Nat),d≤3 →
 (∀ n:Nat,n+KS d≤549755813888→DC Tryz.prog 128 [.c (.ptr 0 0),.agg p.cells,DI .i64 (d+1:Nat)] [some (rdr bs n)] (stR bs n d)) ∧
 (∀ (n nn : Nat), nn ≤ 4 → n + 4 * KS d ≤ 549755813888 → DC Tryz.prog 85 [.c (.ptr 0 0), .agg p.cells, DI .i64 (d + 1 : Nat), DI .i64 nn] [some (rdr bs n)]
  (fun r h=>∃ l:List St1,r = .c (.isl 11 (St1.cellsL l))∧l.length≤4∧(∀ s ∈ l,SmS d s)∧rdL bs n (4 * KS d) h)):=by
 intro d
 induction d with
 | zero =>
  intro hd
  have hs:=fun n h=>l2DrawStmtOf bs p hb hl hp hp2 0 hd (fun d' e=>by omega) n h
  exact ⟨hs,fun n nn h1 h2=>l2DrawBlockOf bs p ((0+1:Nat):Int) (SmS 0) (KS 0) (by decide) hs n nn h1 h2⟩
 | succ d ih =>
  intro hd
  have hs:=fun n h=>l2DrawStmtOf bs p hb hl hp hp2 (d+1) hd (fun d' e=>by
   obtain rfl:d=d':=by omega
   exact (ih (by omega)).2) n h
  exact ⟨hs,fun n nn h1 h2=>l2DrawBlockOf bs p ((d+1+1:Nat):Int) (SmS (d+1)) (KS (d+1)) (Nat.le_trans (KS_le _ hd) (by decide)) hs n nn h1 h2⟩
theorem tsize_sm : ∀ (d k : Nat) (s : St1), SmS d s → tsize k s ≤ 9 ^ d
 | d,0,.mk _ _ _ _ _ b e,_=>Nat.zero_le _
 | 0,k+1,.mk _ _ ix v _ b e,h=>by
  simp only [SmS] at h
  obtain ⟨_,_,rfl,rfl⟩:=h
  simp [tsize]
 | d+1,k+1,.mk kk tt ix v cc b e,h=>by
  simp only [SmS] at h
  obtain ⟨_,_,h1,h2,h3,h4⟩:=h
  have hsum:∀ l:List St1,(∀ x ∈ l,SmS d x)→(l.map (tsize k)).sum≤l.length * 9 ^ d:=fun l hl=>by
   induction l with
   | nil=>simp
   | cons a r ih =>
    have:=tsize_sm d k a (hl a (by simp))
    have:=ih fun x hx=>hl x (by simp [hx])
    simp only [List.map_cons,List.sum_cons,List.length_cons,Nat.add_mul]
    omega
  have g1:=hsum b h3
  have g2:=hsum e h4
  have g3:b.length * 9 ^ d≤4 * 9 ^ d:=Nat.mul_le_mul_right _ h1
  have g4:e.length * 9 ^ d≤4 * 9 ^ d:=Nat.mul_le_mul_right _ h2
  have g5:0<9 ^ d:=Nat.pow_pos (by decide)
  have e1:tsize (k+1) (.mk kk tt ix v cc b e)=1+(b.map (tsize k)).sum+(e.map (tsize k)).sum:=rfl
  rw [e1,Nat.pow_succ]
  omega
theorem lsize_sm (d k:Nat) (l:List St1) (h:∀ s ∈ l,SmS d s):lsize k l≤l.length * 9 ^ d:=by
 unfold lsize
 induction l with
 | nil=>simp
 | cons a r ih =>
  have:=tsize_sm d k a (h a (by simp))
  have:=ih fun x hx=>h x (by simp [hx])
  simp only [List.map_cons,List.sum_cons,List.length_cons,Nat.add_mul]
  omega
def fixP:Pg:=⟨[0,1],[],[.mk 1 1 Ex0 (.mk 2 0 []) 0 [] []]⟩
structure DrP (p : Pg) : Prop where
 ok:progOK p=true
 nv:p.vars.length≤5
 na:p.arrays.length≤2
 nb:p.body.length≤4
 sm:∀ s ∈ p.body,SmS 2 s
theorem DrP.fix:DrP fixP:=⟨by decide,by decide,by decide,by decide,fun s hs=>by
 simp only [fixP,List.mem_singleton] at hs
 subst hs
 exact SmS.leaf SmE0 (.mk 2 0 [] (by simp) (fun x h=>by simp at h))⟩
def prR (bs:List Int) (n:Nat) (r:D) (h:List (Option (List C))):Prop:=∃ p:Pg,r = .agg p.cells∧DrP p∧rdL bs n 1000000 h
theorem i_snoc (l:List Int) (x:Int):(l++[x]).map I64=l.map I64++[I64 x]:=by simp
theorem l2Program (bs:List Int) (n:Nat) (hb:Fits .u8 bs) (hl:bs.length≤2000) (hn:n≤274877906944):DC Tryz.prog 29 [.c (.ptr 0 0)] [some (rdr bs n)] (prR bs n):=by
 have hmx:=mx_eq
 have hnum:=fun n xs h1 h2 h3=>numO bs n xs hb hl h1 h2 h3
 generalize hR:prR bs n=R
 refine dcZ Tryz.func29 ?_
 simp only [go_sem,rdr]
 iterate 3 ((try (refine drvZ Tryz.func29 ?_;simp only [go_sem,rdr]));((with_reducible and_intros)<;>try exact sd))
 refine XK.callG [0,321] (hnum n [3,4,2,5] (by omega) (by decide) (by decide)) ok73 (hhp2 rfl rfl) (hbT ()) (fun d h' ⟨_,_,_,e⟩=>by subst e;simp) ?_
 rintro _ _ ⟨nv,rfl,hnv,rfl⟩ _
 obtain ⟨a,rfl,ha5⟩:∃ a:Nat,nv=(a:Int)∧a≤5:=⟨nv.toNat,by simp at hnv;omega,by simp at hnv;omega⟩
 clear hnv
 iterate 1 (try (refine drvZ Tryz.func29 ?_;simp only [go_sem,rdr]))
 refine Go.loopQ (fun x : Nat × List Int => [(0, .c (.ptr 0 0)), (2, .c (.ptr 1 0)), (3, .c (.ptr 66 0)), (4, DI .i64 x.1)])
  (fun x=>[(0,some (rdr bs ((n+1+x.2.length:Nat):Int))),(1,some [.v (.slice none 0 0),.v (.slice none 0 0),.v (.slice none 0 0)]),(66,some [.msl 67 1 0 x.2.length,.v (.slice none 0 0),.v (.slice none 0 0)]),(67,some (x.2.map I64))])
  4096 (fun x=>x.1+x.2.length≤5) (fun x=>x.1) ?_ (a,[]) (fun j=>if j=66 then some 129 else if j=67 then none else some j) [] _ (by simp;omega) ?_
 ·rintro ⟨i,vs⟩ hi again
  simp only at hi
  rcases i with _ | i
  ·have hip:((0:Int)<0)=False:=eq_false (by omega)
   refine drvL Tryz.func29 ?_
   simp only [go_sem,rdr,hip,Int.natCast_zero]
   iterate 3 ((try (refine drvZ Tryz.func29 ?_;simp only [go_sem,rdr]));((with_reducible and_intros)<;>try exact sd))
   refine XK.callG [0,4288] (hnum (n+1+vs.length) [1,2,0,1] (by omega) (by decide) (by decide)) ok73 (hhp2 rfl rfl) (hbT ()) (fun d h' ⟨_,_,_,e⟩=>by subst e;simp) ?_
   rintro _ _ ⟨nv,rfl,hnv,rfl⟩ _
   obtain ⟨a2,rfl,ha2⟩:∃ a:Nat,nv=(a:Int)∧a≤2:=⟨nv.toNat,by simp at hnv;omega,by simp at hnv;omega⟩
   clear hnv again
   ((try (refine drvZ Tryz.func29 ?_;simp only [go_sem,rdr]));((with_reducible and_intros)<;>try exact sd))
   refine Go.loopQ (fun x : Nat × List Int => [(0, .c (.ptr 0 0)), (2, .c (.ptr 1 0)), (3, .c (.ptr 66 0)), (5, DI .i64 x.1)])
    (fun x=>[(0,some (rdr bs ((n+1+vs.length+1+x.2.length:Nat):Int))),(1,some [.v (.slice none 0 0),.v (.slice none 0 0),.v (.slice none 0 0)]),(66,some [isI vs,.msl 68 1 0 x.2.length,.v (.slice none 0 0)]),(68,some (x.2.map I64))])
    8192 (fun x=>x.1+x.2.length≤2) (fun x=>x.1) ?_ (a2,[]) (fun j=>if j=68 then none else some j) [67] _ (by simp;omega) ?_
   ·rintro ⟨i,ar⟩ hi again
    simp only at hi
    rcases i with _ | i
    ·have hip:((0:Int)<0)=False:=eq_false (by omega)
     refine drv_sound (n:=3) (rs:=_) Tryz.func29 mo rfl none _ _ ?_
     simp only [go_sem,rdr]
     refine XK.subQ (r := some) (fz := [68]) (tl := [(0, .c (.ptr 0 0)), (2, .c (.ptr 1 0)), (3, .c (.ptr 66 0)), (5, DI .i64 0)])
      (hl:=[(0,some (rdr bs ((n+1+vs.length+1+ar.length:Nat):Int))),(1,some [.v (.slice none 0 0),.v (.slice none 0 0),.v (.slice none 0 0)]),(66,some [isI vs,isI ar,.isl 11 []])]) ?_ ?_
     ·simp only [go_sem,TmOK,DM,DMs,CM,CMs,forall_eq,exists_eq_left,Mq,HpOK,LowOK,rdr]
      simp [CMs,kf,flat_I']
     iterate 3 ((try (refine drvZ Tryz.func29 ?_;simp only [go_sem,rdr,hip]));((with_reducible and_intros)<;>try exact sd))
     refine XK.callG [0,8512] (hnum (n+1+vs.length+1+ar.length) [2,3,1,4] (by omega) (by decide) (by decide)) ok73 (hhp2 rfl rfl) (hbT ()) (fun d h' ⟨_,_,_,e⟩=>by subst e;simp) ?_ (fun _=>⟨by kernel_rfl,_,_,⟨1,rfl,by simp,rfl⟩,by simp⟩)
     rintro _ _ ⟨nv,rfl,hnv,rfl⟩ _
     obtain ⟨nn,rfl,hnn⟩:∃ a:Nat,nv=(a:Int)∧a≤4:=⟨nv.toNat,by simp at hnv;omega,by simp at hnv;omega⟩
     clear hnv again
     have hvs:vs.length≤5:=by omega
     have har:ar.length≤2:=by omega
     have hdb:=((draws bs ⟨vs,ar,[]⟩ hb hl (by simp only;omega) (by simp only;omega) 2 (by omega)).2 (n+1+vs.length+1+ar.length+1) nn hnn (by have:=KS_le 2 (by omega);omega))
     iterate 2 ((try (refine drvZ Tryz.func29 ?_;simp only [go_sem,rdr,hip]));((with_reducible and_intros)<;>try exact sd))
     refine XK.callG [0] hdb ok85 (hhp_one rfl) (hbT ()) (fun d h' ⟨_,_,_,_,_,_,_,e⟩=>by subst e;simp) ?_ (fun _=>⟨by kernel_rfl,_,_,⟨[],rfl,by simp,by simp,n+1+vs.length+1+ar.length+1,by omega,by omega,rfl⟩,by simp⟩)
     rintro _ _ ⟨bd,rfl,hbl,hbs,m,hm1,hm2,rfl⟩ _
     have hKS:KS 2=87600:=rfl
     have hls:=lsize_sm 2 5 bd hbs
     have hpv:=programValidS ⟨vs,ar,bd⟩ (by simp only;omega) (by simp only;omega) (by simp only;omega)
     iterate 3 ((try (refine drvZ Tryz.func29 ?_;simp only [go_sem,rdr,hip]));((with_reducible and_intros)<;>try exact sd))
     refine XK.plain hpv ok86 ?_ (hbT ())
     cases hq:progOK ⟨vs,ar,bd⟩ with
     | true =>
      iterate 3 ((try (refine drvZ Tryz.func29 ?_;simp only [go_sem,rdr,hq]));((with_reducible and_intros)<;>try exact sd))
      refine RetOb.keep1 (d := .agg (Pg.cells ⟨vs,ar,bd⟩)) (cs:=rdr bs m) (by rw [← hR];exact ⟨⟨vs,ar,bd⟩,rfl,⟨hq,hvs,har,hbl,hbs⟩,m,by omega,by omega,rfl⟩) rfl (rdr_kf _ _) ?_
      intro c hc
      simp only [Pg.cells,isI,List.mem_cons,List.not_mem_nil,or_false] at hc
      rcases hc with rfl | rfl | rfl<;>rfl
     | false =>
      iterate 3 ((try (refine drvZ Tryz.func29 ?_;simp only [go_sem,rdr,hq]));((with_reducible and_intros)<;>try exact sd))
      refine RetOb.step some [] (.agg [.msl 8960 1 0 2,.isl 1 [],.msl 9152 11 0 1]) [(0,some (rdr bs m)),(8960,some [I64 0,I64 1]),(9152,some (stC fixP.body))] ?_ ?_
      ·simp [hOf,DM,DMs,CM,CMs,HpOK,LowOK,upd,rdr,stC,fixP,St1.cells,St1.cellsL,Ex.cells,Ex.cellsL,Ex0]
      refine RetOb.ofQ (fun j=>if j=0 then some 0 else none) [8960,9152] (.agg (Pg.cells fixP)) [some (rdr bs m)] ?_ ?_ (by simp)
      ·simp [enumL,hOf,DM,DMs,CM,CMs,HpOK,LowOK,upd,rdr,stC,fixP,Pg.cells,isI,St1.cells,St1.cellsL,Ex.cells,Ex.cellsL,Ex0,kf]
      ·rw [← hR];exact ⟨fixP,rfl,DrP.fix,m,by omega,by omega,rfl⟩
    ·have hip:((0:Int)<(i:Int)+1)=True:=eq_true (by omega)
     refine drvL Tryz.func29 ?_
     simp only [go_sem,rdr,hip]
     iterate 3 ((try (refine drvZ Tryz.func29 ?_;simp only [go_sem,rdr]));((with_reducible and_intros)<;>try exact sd))
     refine XK.callG [0,8512] (hnum (n+1+vs.length+1+ar.length) [0,1,0,1,3] (by omega) (by decide) (by decide)) ok73 (hhp2 rfl rfl) (hbT ()) (fun d h' ⟨_,_,_,e⟩=>by subst e;simp) ?_ (fun _=>⟨by kernel_rfl,_,_,⟨0,rfl,by simp,rfl⟩,by simp⟩)
     rintro _ _ ⟨v,rfl,hv,rfl⟩ _
     clear hv
     iterate 4 ((try (refine drvZ Tryz.func29 ?_;simp only [go_sem,rdr]));((with_reducible and_intros)<;>try exact sd))
     refine again (i,ar++[v]) (fun j=>if j=68 then some 8704 else some j) [] _ (by simp;omega) (by simp) ?_
     simp only [go_sem,TmOK,DM,DMs,CM,CMs,forall_eq,exists_eq_left,Mq,HpOK,LowOK,rdr,i_snoc]
     simp
     exact ⟨by omega,CMs.kf (kf_app (kf_I _) (by simp [kf]))⟩
   ·simp only [go_sem,TmOK,DM,DMs,CM,CMs,forall_eq,exists_eq_left,Mq,HpOK,LowOK,rdr]
    simp [CMs,kf,flat_I']
  ·have hip:((0:Int)<(i:Int)+1)=True:=eq_true (by omega)
   refine drvL Tryz.func29 ?_
   simp only [go_sem,rdr,hip]
   iterate 3 ((try (refine drvZ Tryz.func29 ?_;simp only [go_sem,rdr]));((with_reducible and_intros)<;>try exact sd))
   refine XK.callG [0,4416] (hnum (n+1+vs.length) [0,1,0,1,2,3] (by omega) (by decide) (by decide)) ok73 (hhp2 rfl rfl) (hbT ()) (fun d h' ⟨_,_,_,e⟩=>by subst e;simp) ?_ (fun _=>⟨by kernel_rfl,_,_,⟨0,rfl,by simp,rfl⟩,by simp⟩)
   rintro _ _ ⟨v,rfl,hv,rfl⟩ _
   clear hv
   iterate 4 ((try (refine drvZ Tryz.func29 ?_;simp only [go_sem,rdr]));((with_reducible and_intros)<;>try exact sd))
   refine again (i,vs++[v]) (fun j=>if j=67 then some 4608 else some j) [] _ (by simp;omega) (by simp) ?_
   simp only [go_sem,TmOK,DM,DMs,CM,CMs,forall_eq,exists_eq_left,Mq,HpOK,LowOK,rdr,i_snoc]
   simp
   exact ⟨by omega,CMs.kf (kf_app (kf_I _) (by simp [kf]))⟩
 ·simp only [go_sem,TmOK,DM,DMs,CM,CMs,forall_eq,exists_eq_left,Mq,HpOK,LowOK,rdr]
  simp [CMs]
end Go.Proofs.YtbknljofedfpjaaGreat.CtD
