/- Contracts of functions of the program, one behind the other, as plain data: what each call returns and which blocks it leaves. -/
import Derived.Test.YtmjkgjkkpaephaaGreatSFacts
import Derived.Test.YtmjkgjkkpaephaaGreatSAi
import Derived.Test.YtmjkgjkkpaephaaGreatSAj
import Derived.Test.YtmjkgjkkpaephaaGreatSAl
import Derived.Test.YtmjkgjkkpaephaaGreatSAn
import Derived.Test.YtmjkgjkkpaephaaGreatSAo
import Derived.Test.YtmjkgjkkpaephaaGreatSAp
import Derived.Test.YtmjkgjkkpaephaaGreatSAt
import Derived.Test.YtmjkgjkkpaephaaGreatSAu
import Derived.Test.YtmjkgjkkpaephaaGreatSAv
import Derived.Test.YtmjkgjkkpaephaaGreatSAw
import Derived.Test.YtmjkgjkkpaephaaGreatSAk
import Derived.Test.YtmjkgjkkpaephaaGreatSAm
import Derived.Test.YtmjkgjkkpaephaaGreatSAq
set_option linter.unusedVariables false
set_option linter.unusedSimpArgs false
set_option maxHeartbeats 16000000
set_option maxRecDepth 100000
namespace Go.Proofs.YtmjkgjkkpaephaaGreat.CtD
open Go Go.CT CtF CtR
inductive FE : Ex → Prop
  | mk (k v:Int) (ks:List Ex) (h:ks.length≤1048576) (h2:∀ x ∈ ks,FE x):FE (.mk k v ks)
inductive FS : St1 → Prop
  | mk (k t:Int) (ix v:Ex) (c:Int) (b e:List St1) (h1:FE ix) (h2:FE v) (h3:b.length≤1048576) (h4:e.length≤1048576) (h5:∀ x ∈ b,FS x) (h6:∀ x ∈ e,FS x):FS (.mk k t ix v c b e)
theorem copyE (e:Ex) (he:FE e):DC Tryz.prog 144 [.agg e.cells] [] (fun r h=>r = .agg e.cells∧h=[]):=by
  have hmx:=mx_eq
  induction he with
  | mk k v ks hlen hall ih =>
    refine dcZ Tryz.func144 ?_
    simp only [go_sem]
    iterate 2 (try (refine drvZ Tryz.func144 ?_;simp only [go_sem]))
    refine Go.loopQ (fun i : Nat => [(1, .c (.ptr 0 0)), (2, .c (.ptr 64 0)), (3, .c (.ptr 66 0)), (4, DI .i64 i)])
      (fun i=>[(0,some (Ex.cells (.mk k v ks))),(64,some [I64 0,I64 0,.v (.slice none 0 0)]),(66,some [I64 k,I64 v,.msl 67 3 0 i]),(67,some (exC (ks.take i)))])
      4096 (fun i=>i≤ks.length) (fun i=>ks.length - i) ?_ 0 (fun j=>if j=66 then some 448 else if j=67 then none else some j) [] _ (Nat.zero_le _) ?_
    · intro i hi again
      rcases Nat.lt_or_ge i ks.length with hlt | hge
      · obtain ⟨⟨k',v',ks'⟩,hx⟩:∃ x,ks[i]? = some x:=⟨ks[i],by simp [hlt]⟩
        have hsx:ks.take (i+1)=ks.take i++[.mk k' v' ks']:=by rw [List.take_add_one,hx];rfl
        have hel:(exC (ks.take i)).length=i * 3:=by rw [exC_len,List.length_take];congr 1;omega
        refine drvL Tryz.func144 ?_
        simp only [go_sem,hx,hlt]
        (with_reducible and_intros)<;>try exact sd
        iterate 2 (try (refine drvZ Tryz.func144 ?_;simp only [go_sem,hx,hlt]))
        (with_reducible and_intros)<;>try exact sd
        refine XK.plain (ih _ (List.mem_of_getElem? hx)) ok144 ?_ (hbT ()) (fun _=>by kernel_rfl)
        iterate 3 (try (refine drvZ Tryz.func144 ?_;simp only [go_sem,hx,hlt]))
        (with_reducible and_intros)<;>try exact sd
        iterate 2 (try (refine drvZ Tryz.func144 ?_;simp only [go_sem,hx,hlt]))
        (with_reducible and_intros)<;>try exact sd
        refine again (i+1) (fun j=>if j=67 then some 4992 else some j) [] _ hlt (by omega) ?_
        simp only [go_sem,TmOK,DM,DMs,CM,CMs,forall_eq,exists_eq_left,Mq,HpOK,LowOK,hsx,exC_snoc]
        simp
        exact CMs.kf (kf_app (exC_kf _) (by simp [kf]))
      · have hn:¬ i<ks.length:=by omega
        obtain rfl:i=ks.length:=by omega
        refine drvL Tryz.func144 ?_
        simp only [go_sem,hn,List.take_length]
        iterate 2 (try (refine drvZ Tryz.func144 ?_;simp only [go_sem,hn,List.take_length]))
        refine RetOb.ofQ (fun j=>none) [67] (.agg (Ex.cells (.mk k v ks))) [] ?_ ⟨rfl,rfl⟩ (by simp)
        have g1:(Ex.cellsL ks).flatten=exC ks:=by rw [Ex.cellsL_eq];rfl
        have g2:∀ x ∈ Ex.cellsL ks,x.length=3:=fun x hx=>by rw [Ex.cellsL_eq] at hx;obtain ⟨e,_,rfl⟩:=List.mem_map.1 hx;exact Ex.cells_len e
        have g3:∀ x ∈ Ex.cellsL ks,∀ c ∈ x,kf c=true:=fun x hx=>by rw [Ex.cellsL_eq] at hx;obtain ⟨e,_,rfl⟩:=List.mem_map.1 hx;exact ex_kf e
        simp only [enumL,hOf,DM,DMs,CM,CMs,HpOK,LowOK,upd,Ex.cells,Ex.cellsL_length,g1]
        first | (simp;exact ⟨g2,g3⟩) | (simp [g2];exact g3) | exact ⟨g2,g3⟩
    · simp only [go_sem,TmOK,DM,DMs,CM,CMs,forall_eq,exists_eq_left,Mq,HpOK,LowOK]
      simp [exC]
theorem copyBOf (l : List St1) (hl : l.length ≤ 1048576) (hs : ∀ s ∈ l, FS s) (ih : ∀ s ∈ l, DC Tryz.prog 122 [.c (.isl 11 (St1.cellsL s.body))] [] (fun r h => r = .c (.isl 11 (St1.cellsL s.body)) ∧ h = []) ∧ DC Tryz.prog 122 [.c (.isl 11 (St1.cellsL s.els))] [] (fun r h => r = .c (.isl 11 (St1.cellsL s.els)) ∧ h = [])) :
    DC Tryz.prog 122 [.c (.isl 11 (St1.cellsL l))] [] (fun r h=>r = .c (.isl 11 (St1.cellsL l))∧h=[]):=by
  have hmx:=mx_eq
  refine dcZ Tryz.func122 ?_
  simp only [go_sem]
  iterate 2 (try (refine drvZ Tryz.func122 ?_;simp only [go_sem]))
  refine Go.loopQ (fun i : Nat => [(0, .c (.isl 11 (St1.cellsL l))), (3, .c (.msl 67 11 0 i)), (4, DI .i64 i)]) (fun i => [(67, some (stC (l.take i)))])
    4096 (fun i=>i≤l.length) (fun i=>l.length - i) ?_ 0 (fun j=>if j=67 then some 64 else some j) [] _ (Nat.zero_le _) ?_
  · intro i hi again
    rcases Nat.lt_or_ge i l.length with hlt | hge
    · obtain ⟨⟨k,t,⟨ik,iv,iks⟩,⟨vk,vv,vks⟩,c,b,e⟩,hx⟩:∃ x,l[i]? = some x:=⟨l[i],by simp [hlt]⟩
      have hsx:l.take (i+1)=l.take i++[.mk k t (.mk ik iv iks) (.mk vk vv vks) c b e]:=by rw [List.take_add_one,hx];rfl
      have hel:(stC (l.take i)).length=i * 11:=by rw [stC_len,List.length_take];congr 1;omega
      have hsm:=hs _ (List.mem_of_getElem? hx)
      obtain ⟨hib,hie⟩:=ih _ (List.mem_of_getElem? hx)
      simp only [St1.body,St1.els] at hib hie
      obtain ⟨f1,f2,f3,f4,f5,f6⟩:FE (.mk ik iv iks)∧FE (.mk vk vv vks)∧b.length≤1048576∧e.length≤1048576∧(∀ x ∈ b,FS x)∧∀ x ∈ e,FS x:=by cases hsm;exact ⟨‹_›,‹_›,‹_›,‹_›,‹_›,‹_›⟩
      refine drvL Tryz.func122 ?_
      simp only [go_sem,hx,hlt]
      iterate 2 (try (refine drvZ Tryz.func122 ?_;simp only [go_sem,hx,hlt]))
      refine XK.plain (copyE _ f1) ok144 ?_ (hbT ())
      iterate 2 (try (refine drvZ Tryz.func122 ?_;simp only [go_sem]))
      refine XK.plain (copyE _ f2) ok144 ?_ (hbT ())
      iterate 2 (try (refine drvZ Tryz.func122 ?_;simp only [go_sem]))
      refine XK.plain hib ok122 ?_ (hbT ())
      iterate 2 (try (refine drvZ Tryz.func122 ?_;simp only [go_sem]))
      refine XK.plain hie ok122 ?_ (hbT ())
      iterate 3 (try (refine drvZ Tryz.func122 ?_;simp only [go_sem]))
      (with_reducible and_intros)<;>try exact sd
      iterate 2 (try (refine drvZ Tryz.func122 ?_;simp only [go_sem]))
      (with_reducible and_intros)<;>try exact sd
      refine again (i+1) (fun j=>if j=67 then some 6208 else some j) [] _ hlt (by omega) ?_
      simp only [go_sem,TmOK,DM,DMs,CM,CMs,forall_eq,exists_eq_left,Mq,HpOK,LowOK,hsx,stC_snoc,List.cons_append,List.nil_append]
      simp
      exact CMs.kf (kf_app (stC_kf _) (by simp [kf]))
    · have hn:¬ i<l.length:=by omega
      obtain rfl:i=l.length:=by omega
      refine drvL Tryz.func122 ?_
      simp only [go_sem,hn,List.take_length]
      iterate 2 (try (refine drvZ Tryz.func122 ?_;simp only [go_sem,hn,List.take_length]))
      refine RetOb.ofQ (fun j=>none) [67] (.c (.isl 11 (St1.cellsL l))) [] ?_ ⟨rfl,rfl⟩ (by simp)
      have g1:(St1.cellsL l).flatten=stC l:=by rw [St1.cellsL_eq];rfl
      have g2:∀ x ∈ St1.cellsL l,x.length=11:=fun x hx=>by rw [St1.cellsL_eq] at hx;obtain ⟨e,_,rfl⟩:=List.mem_map.1 hx;exact St1.cells_len e
      have g3:∀ x ∈ St1.cellsL l,∀ c ∈ x,kf c=true:=fun x hx=>by rw [St1.cellsL_eq] at hx;obtain ⟨e,_,rfl⟩:=List.mem_map.1 hx;exact st_kf e
      simp only [enumL,hOf,DM,DMs,CM,CMs,HpOK,LowOK,upd,St1.cellsL_length,g1]
      first | (simp;exact ⟨g2,g3⟩) | (simp [g2];exact g3) | exact ⟨g2,g3⟩
  · simp only [go_sem,TmOK,DM,DMs,CM,CMs,forall_eq,exists_eq_left,Mq,HpOK,LowOK]
    simp [stC,CMs]
theorem copyBS:∀ s:St1,FS s→DC Tryz.prog 122 [.c (.isl 11 (St1.cellsL s.body))] [] (fun r h=>r = .c (.isl 11 (St1.cellsL s.body))∧h=[])∧DC Tryz.prog 122 [.c (.isl 11 (St1.cellsL s.els))] [] (fun r h=>r = .c (.isl 11 (St1.cellsL s.els))∧h=[]):=by
  intro s hs
  induction hs with
  | mk k t ix v c b e h1 h2 h3 h4 h5 h6 ih1 ih2=>exact ⟨copyBOf b h3 h5 ih1,copyBOf e h4 h6 ih2⟩
theorem copyBO (l:List St1) (hl:l.length≤1048576) (hs:∀ s ∈ l,FS s):DC Tryz.prog 122 [.c (.isl 11 (St1.cellsL l))] [] (fun r h=>r = .c (.msl 0 11 0 l.length)∧h=[some (stC l)]):=by
  have hmx:=mx_eq
  have ih:=fun s h=>copyBS s (hs s h)
  refine dcZ Tryz.func122 ?_
  simp only [go_sem]
  iterate 2 (try (refine drvZ Tryz.func122 ?_;simp only [go_sem]))
  refine Go.loopQ (fun i : Nat => [(0, .c (.isl 11 (St1.cellsL l))), (3, .c (.msl 67 11 0 i)), (4, DI .i64 i)]) (fun i => [(67, some (stC (l.take i)))])
    4096 (fun i=>i≤l.length) (fun i=>l.length - i) ?_ 0 (fun j=>if j=67 then some 64 else some j) [] _ (Nat.zero_le _) ?_
  · intro i hi again
    rcases Nat.lt_or_ge i l.length with hlt | hge
    · obtain ⟨⟨k,t,⟨ik,iv,iks⟩,⟨vk,vv,vks⟩,c,b,e⟩,hx⟩:∃ x,l[i]? = some x:=⟨l[i],by simp [hlt]⟩
      have hsx:l.take (i+1)=l.take i++[.mk k t (.mk ik iv iks) (.mk vk vv vks) c b e]:=by rw [List.take_add_one,hx];rfl
      have hel:(stC (l.take i)).length=i * 11:=by rw [stC_len,List.length_take];congr 1;omega
      have hsm:=hs _ (List.mem_of_getElem? hx)
      obtain ⟨hib,hie⟩:=ih _ (List.mem_of_getElem? hx)
      simp only [St1.body,St1.els] at hib hie
      obtain ⟨f1,f2,f3,f4,f5,f6⟩:FE (.mk ik iv iks)∧FE (.mk vk vv vks)∧b.length≤1048576∧e.length≤1048576∧(∀ x ∈ b,FS x)∧∀ x ∈ e,FS x:=by cases hsm;exact ⟨‹_›,‹_›,‹_›,‹_›,‹_›,‹_›⟩
      refine drvL Tryz.func122 ?_
      simp only [go_sem,hx,hlt]
      iterate 2 (try (refine drvZ Tryz.func122 ?_;simp only [go_sem,hx,hlt]))
      refine XK.plain (copyE _ f1) ok144 ?_ (hbT ())
      iterate 2 (try (refine drvZ Tryz.func122 ?_;simp only [go_sem]))
      refine XK.plain (copyE _ f2) ok144 ?_ (hbT ())
      iterate 2 (try (refine drvZ Tryz.func122 ?_;simp only [go_sem]))
      refine XK.plain hib ok122 ?_ (hbT ())
      iterate 2 (try (refine drvZ Tryz.func122 ?_;simp only [go_sem]))
      refine XK.plain hie ok122 ?_ (hbT ())
      iterate 3 (try (refine drvZ Tryz.func122 ?_;simp only [go_sem]))
      (with_reducible and_intros)<;>try exact sd
      iterate 2 (try (refine drvZ Tryz.func122 ?_;simp only [go_sem]))
      (with_reducible and_intros)<;>try exact sd
      refine again (i+1) (fun j=>if j=67 then some 6208 else some j) [] _ hlt (by omega) ?_
      simp only [go_sem,TmOK,DM,DMs,CM,CMs,forall_eq,exists_eq_left,Mq,HpOK,LowOK,hsx,stC_snoc,List.cons_append,List.nil_append]
      simp
      exact CMs.kf (kf_app (stC_kf _) (by simp [kf]))
    · have hn:¬ i<l.length:=by omega
      obtain rfl:i=l.length:=by omega
      refine drvL Tryz.func122 ?_
      simp only [go_sem,hn,List.take_length]
      iterate 2 (try (refine drvZ Tryz.func122 ?_;simp only [go_sem,hn,List.take_length]))
      refine RetOb.ofQ (fun j=>if j=0 then some 67 else none) [] (.c (.msl 0 11 0 l.length)) [some (stC l)] ?_ ⟨rfl,rfl⟩ (by simp)
      simp [enumL,hOf,DM,CM,HpOK,LowOK,upd]
      exact CMs.kf (stC_kf _)
  · simp only [go_sem,TmOK,DM,DMs,CM,CMs,forall_eq,exists_eq_left,Mq,HpOK,LowOK]
    simp [stC,CMs]
theorem copyP (p : Pg) (hv : p.vars.length ≤ 1048576) (ha : p.arrays.length ≤ 1048576) (hb : p.body.length ≤ 1048576) (hs : ∀ s ∈ p.body, FS s) : DC Tryz.prog 80 [.agg p.cells] []
    (fun r h=>r = .agg [.msl 0 1 0 p.vars.length,.msl 1 1 0 p.arrays.length,.msl 2 11 0 p.body.length]∧h=[some (p.vars.map I64),some (p.arrays.map I64),some (stC p.body)]):=by
  have hmx:=mx_eq
  have hcb:=copyBO p.body hb hs
  generalize hR:(fun (r:D) (h:List (Option (List C)))=>r = .agg [.msl 0 1 0 p.vars.length,.msl 1 1 0 p.arrays.length,.msl 2 11 0 p.body.length]∧h=[some (p.vars.map I64),some (p.arrays.map I64),some (stC p.body)])=R
  obtain ⟨vs,ar,bd⟩:=p
  have hv:vs.length≤1048576:=hv
  have ha:ar.length≤1048576:=ha
  have hb:bd.length≤1048576:=hb
  have hfl:(bd.map St1.cells).flatten=stC bd:=rfl
  refine dcZ Tryz.func80 ?_
  simp only [go_sem,flat_I']
  iterate 2 ((try (refine drvZ Tryz.func80 ?_;simp only [go_sem,flat_I']));((with_reducible and_intros)<;>try exact sd))
  refine XK.callG [] hcb ok122 (fun i' x h=>by simp at h) (hbT ()) (fun d h' ⟨_,e⟩=>by subst e;simp) ?_ (fun _=>⟨by kernel_rfl,_,_,⟨rfl,rfl⟩,by simp⟩)
  rintro _ _ ⟨rfl,rfl⟩ _
  iterate 3 ((try (refine drvZ Tryz.func80 ?_;simp only [go_sem,flat_I',renCs_stC]));((with_reducible and_intros)<;>try exact sd))
  refine RetOb.ofQ (fun j=>if j=0 then some 320 else if j=1 then some 576 else if j=2 then some 768 else none) [] (.agg [.msl 0 1 0 vs.length,.msl 1 1 0 ar.length,.msl 2 11 0 bd.length]) [some (vs.map I64),some (ar.map I64),some (stC bd)] ?_ (by rw [← hR];exact ⟨rfl,rfl⟩) (by simp)
  simp [enumL,hOf,DM,DMs,CM,CMs,HpOK,LowOK,upd,CMs_I]
  exact CMs.kf (stC_kf _)
end Go.Proofs.YtmjkgjkkpaephaaGreat.CtD
namespace Go.Proofs.YtmjkgjkkpaephaaGreat.CtL
open Go Go.CT CtF CtR
open CtD (rel rel_app rel_eval FE FS)
theorem linK_sz {d:Nat} {f:List Int→Ex→List Int × List St1 × Ex} (hf:∀ vs e,(f vs e).1.length≤vs.length+cnt d e∧(f vs e).2.1.length≤4 * cnt d e):∀ (ks:List Ex) (vs:List Int),
    (linK f vs ks).1.length≤vs.length+(ks.map (cnt d)).sum∧(linK f vs ks).2.1.length≤4 * (ks.map (cnt d)).sum
  | [],vs=>by simp [linK]
  | e :: r,vs=>by
    obtain ⟨a1,a2⟩:=hf vs e
    obtain ⟨b1,b2⟩:=linK_sz hf r (f vs e).1
    simp only [linK,List.length_append,List.map_cons,List.sum_cons]
    omega
theorem linE_sz {ar : List Int} {pc : Nat} : ∀ (d : Nat) (vs : List Int) (e : Ex), (linE ar pc d vs e).1.length ≤ vs.length + cnt d e ∧ (linE ar pc d vs e).2.1.length ≤ 4 * cnt d e
  | 0,vs,e=>by simp [linE]
  | d+1,vs,.mk k v ks=>by
    obtain ⟨b1,b2⟩:=linK_sz (fun vs e=>linE_sz (ar:=ar) (pc:=pc) d vs e) ks vs
    simp only [linE,cnt]
    split
    · simp only [List.length_append,lab1,List.length_singleton,readS,List.length_cons,List.length_nil];omega
    · simp only;omega
theorem lsize_flat {D : Nat} : ∀ l : List St1, (∀ s ∈ l, s.body = [] ∧ s.els = []) → lsize D l ≤ l.length
  | [],_=>by simp [lsize]
  | s :: r,h=>by
    have ih:=lsize_flat (D:=D) r fun s hs=>h s (by simp [hs])
    have h1:=h s (by simp)
    have:tsize D s≤1:=by
      cases D with
      | zero=>simp [tsize]
      | succ D=>rw [tsize_subs];simp [subs,h1,lsize]
    simp only [lsize,List.map_cons,List.sum_cons,List.length_cons] at ih ⊢
    omega
theorem lsize_nil (D:Nat):lsize D []=0:=by simp [lsize]
theorem lsize_one (D:Nat) (s:St1):lsize D [s]=tsize D s:=by simp [lsize]
theorem linB_sz {d:Nat} {f:List Int→St1→List Int × List St1}:∀ (l:List St1) (vs:List Int),(∀ s ∈ l,∀ vs,(f vs s).1.length≤vs.length+17 * tsize d s∧∀ D,lsize D (f vs s).2≤70 * tsize d s) →
    (linB f vs l).1.length≤vs.length+17 * lsize d l∧∀ D,lsize D (linB f vs l).2≤70 * lsize d l
  | [],vs,_=>by simp [linB,lsize]
  | s :: r,vs,h=>by
    obtain ⟨a1,a2⟩:=h s (by simp) vs
    obtain ⟨b1,b2⟩:=linB_sz r (f vs s).1 fun s hs=>h s (by simp [hs])
    have e:lsize d (s :: r)=tsize d s+lsize d r:=by simp [lsize]
    refine ⟨by simp only [linB];omega,fun D=>?_⟩
    have:=a2 D
    have:=b2 D
    simp only [linB,lsize_app]
    omega
theorem linS_sz {p : Pg} : ∀ (d : Nat) (mk : Int) (pc : Nat) (s : St1) (vs : List Int), stmtOK p d s = true → p.vars.length ≤ vs.length → (linS p.arrays d mk pc vs s).1.length ≤ vs.length + 17 * tsize d s ∧ ∀ D, lsize D (linS p.arrays d mk pc vs s).2 ≤ 70 * tsize d s
  | 0,_,_,s,_,h,_=>by simp [stmtOK] at h
  | d+1,mk,pc,s,vs,hso,hl=>by
    have ih:∀ mk pc l (vs:List Int),(∀ s ∈ l,stmtOK p d s=true)→p.vars.length≤vs.length→(linB (linS p.arrays d mk pc) vs l).1.length≤vs.length+17 * lsize d l∧∀ D,lsize D (linB (linS p.arrays d mk pc) vs l).2≤70 * lsize d l:=fun mk pc l=>by
      induction l with
      | nil=>intro vs _ _;simp [linB,lsize]
      | cons s r ihr =>
        intro vs hok hl
        have h1:=linS_sz d mk pc s vs (hok s (by simp)) hl
        have hm:=more_le (lin_more (p:=p) d mk pc vs [s] (by simpa using hok s (by simp)) hl)
        simp only [linB] at hm
        have h2:=ihr (linS p.arrays d mk pc vs s).1 (fun s hs=>hok s (by simp [hs])) (by omega)
        have e:lsize d (s :: r)=tsize d s+lsize d r:=by simp [lsize]
        refine ⟨by simp only [linB];omega,fun D=>?_⟩
        have:=h1.2 D
        have:=h2.2 D
        simp only [linB,lsize_app]
        omega
    obtain ⟨k,t,ix,v,c,b,e⟩:=s
    obtain ⟨hh,hb,he⟩:=stmtOK_succ hso
    obtain ⟨s1,s2⟩:=shapeV hso
    have hkk:=head_kind hh
    have hts:tsize (d+1) (.mk k t ix v c b e)=1+lsize d b+lsize d e:=by simp [tsize,lsize]
    have htD:∀ D k t ix v c b e,tsize (D+1) (.mk k t ix v c b e)=1+lsize D b+lsize D e:=fun D k t ix v c b e=>by simp [tsize,lsize]
    rw [hts]
    by_cases k4:k=4
    · subst k4
      obtain ⟨i1,i2⟩:=ih mk pc b vs hb hl
      rw [linS_4]
      refine ⟨by simp only;omega,fun D=>?_⟩
      simp only [lsize_one]
      cases D with
      | zero=>simp [tsize]
      | succ D =>
        have:=i2 D
        rw [htD,lsize_nil];omega
    have hcnt:cnt 5 v≤15:=by
      have:right p v=true:=by
        rcases hkk with h | h | h | h
        · exact h.2.2.2
        · exact h.2.2.2.2.2
        · exact h.2
        · exact absurd h.1 k4
      exact (right_shape this).2
    have hsv:=shape_mono (p:=p) (q:=⟨vs,p.arrays,[]⟩) hl rfl 5 v (s1 k4)
    obtain ⟨z1,z2⟩:=linE_sz (ar:=p.arrays) (pc:=pc) 5 vs v
    have hfl:∀ D,lsize D (linE p.arrays pc 5 vs v).2.1≤60:=fun D=>by
      have hfin:=(tyE (pc:=pc) 5 (linE p.arrays pc 5 vs v).1 vs v hsv ⟨[],by simp⟩).fin
      have:=lsize_flat (D:=D) (linE p.arrays pc 5 vs v).2.1 fun s hs=>⟨(hfin s hs).1,(hfin s hs).2.1⟩
      omega
    have hEm:=more_le (linE_ok (q:=⟨[],p.arrays,[]⟩) rfl pc 5 vs v hsv).more
    generalize hEe:linE p.arrays pc 5 vs v=E at *
    by_cases k3:k=3
    · subst k3
      rw [linS_3,hEe]
      unfold linI
      dsimp only
      split
      · have hl2:∀ l,(E.1++lab1 pc l++lab1 pc l).length=E.1.length+2:=fun l=>by simp [lab1]
        generalize labN vs p.arrays 5 v=l at *
        obtain ⟨i1,i2⟩:=ih (E.1.length:Int) (pc ||| l) b (E.1++lab1 pc l++lab1 pc l) hb (by rw [hl2];omega)
        have hm1:=more_le (lin_more (p:=p) d (E.1.length:Int) (pc ||| l) (E.1++lab1 pc l++lab1 pc l) b hb (by rw [hl2];omega))
        obtain ⟨j1,j2⟩:=ih ((E.1.length+1:Nat):Int) (pc ||| l) e (linB (linS p.arrays d (E.1.length:Int) (pc ||| l)) (E.1++lab1 pc l++lab1 pc l) b).1 he (by rw [hl2] at hm1;omega)
        have hl2:=hl2 l
        refine ⟨by dsimp only;omega,fun D=>?_⟩
        have:=i2 D
        have:=j2 D
        have:=hfl D
        have h2:lsize D (maskS mk E.1.length E.2.2)≤2:=lsize_flat (D:=D) (maskS mk E.1.length E.2.2) (by simp [maskS,asg,St1.body,St1.els])
        simp only [lsize_app]
        omega
      · generalize labN vs p.arrays 5 v=l at *
        obtain ⟨i1,i2⟩:=ih mk (pc ||| l) b E.1 hb (by omega)
        have hm1:=more_le (lin_more (p:=p) d mk (pc ||| l) E.1 b hb (by omega))
        obtain ⟨j1,j2⟩:=ih mk (pc ||| l) e (linB (linS p.arrays d mk (pc ||| l)) E.1 b).1 he (by omega)
        refine ⟨by simp only;omega,fun D=>?_⟩
        have:=hfl D
        simp only [lsize_app,lsize_one]
        cases D with
        | zero=>simp only [tsize];omega
        | succ D =>
          have:=i2 D
          have:=j2 D
          rw [htD];omega
    rw [linS_o k4 k3,hEe]
    have hsx:∀ D (s:St1),s.body=[]→s.els=[]→tsize D s≤1:=fun D s h1 h2=>by
      have:=lsize_flat (D:=D) [s] (by simp [h1,h2])
      simpa [lsize] using this
    by_cases k5:k=5
    · subst k5
      rw [linO_5]
      refine ⟨by simp only;omega,fun D=>?_⟩
      have:=hfl D
      have:=hsx D (.mk 5 t e0 E.2.2 0 [] []) rfl rfl
      simp only [lsize_app,lsize_one];omega
    by_cases k1:k=1
    · subst k1
      rw [linO_1]
      refine ⟨by simp only;omega,fun D=>?_⟩
      have:=hfl D
      have:=hsx D (asg t (maskE mk E.2.2 (vE t))) rfl rfl
      simp only [lsize_app,lsize_one];omega
    have k2:k=2:=by omega
    subst k2
    rw [linO_2]
    split
    · refine ⟨by simp [lab1];omega,fun D=>?_⟩
      have:=hfl D
      have:=lsize_flat (D:=D) (asg (E.1.length:Int) E.2.2 :: stoS mk E.1.length t ix) (by simp [asg,stoS,stoN,sto,St1.body,St1.els])
      simp [stoS] at this
      simp only [lsize_app,stoS];omega
    · refine ⟨by simp only;omega,fun D=>?_⟩
      have:=hfl D
      have:=hsx D (sto t ix (maskE mk E.2.2 (rdE t ix))) rfl rfl
      simp only [lsize_app,lsize_one];omega
theorem FE_shape {p : Pg} : ∀ (d : Nat) (e : Ex), CtR.shape p d e = true → FE e
  | 0,e,h=>by simp [CtR.shape] at h
  | d+1,.mk k v ks,h=>by
    obtain ⟨g1,g2,g3⟩:=shape_succ h
    have:=fits_len g1
    exact .mk k v ks (by omega) fun x hx=>FE_shape d x (g2 x hx)
theorem FE_e0:FE e0 := .mk 0 0 [] (by simp) (by simp)
theorem len_lsize (l:List St1):l.length≤lsize 1 l:=by
  unfold lsize
  exact len_le_sum _ l fun s _=>tsize_pos s
theorem FS_of {p : Pg} : ∀ (s : St1), (∀ D, BdS p D s) → (∀ D, tsize D s ≤ 1048576) → FS s
  | .mk k t ix v c b e,h1,h2=>by
    have hts:∀ D,lsize D b≤1048576∧lsize D e≤1048576:=fun D=>by
      have:=h2 (D+1)
      rw [tsize_subs] at this
      simp only [subs,St1.body,St1.els] at this
      omega
    have hb1:=len_lsize b
    have he1:=len_lsize e
    have hb2:=(hts 1).1
    have he2:=(hts 1).2
    have h3:=h1 1
    obtain ⟨_,a2,a3,_,_,a6,a7⟩:=h3
    refine .mk k t ix v c b e ?_ ?_ (by omega) (by omega) (fun x hx=>?_) fun x hx=>?_
    · by_cases hk:k=2
      · obtain ⟨D,hD⟩:=a3 hk
        exact FE_shape D ix hD
      · rw [a6 hk];exact FE_e0
    · by_cases hk:k=4
      · rw [a7 hk];exact FE_e0
      · obtain ⟨D,hD⟩:=a2 hk
        exact FE_shape D v hD
    · exact FS_of x (fun D=>(h1 (D+1)).2.2.2.1 x hx) fun D=>Nat.le_trans (mem_le_lsize hx) (hts D).1
    · exact FS_of x (fun D=>(h1 (D+1)).2.2.2.2.1 x hx) fun D=>Nat.le_trans (mem_le_lsize hx) (hts D).2
termination_by s=>SizeOf.sizeOf s
decreasing_by
  all_goals
    have:=List.sizeOf_lt_of_mem hx
    simp only [St1.mk.sizeOf_spec]
    omega
theorem FS_ok {p : Pg} : ∀ (d : Nat) (s : St1), stmtOK p d s = true → tsize d s ≤ 1048576 → FS s
  | 0,s,h,_=>by simp [stmtOK] at h
  | d+1,.mk k t ix v c b e,h,hts=>by
    obtain ⟨hh,hb,he⟩:=stmtOK_succ h
    obtain ⟨s1,s2⟩:=shapeV h
    obtain ⟨q1,q2,q3,q4⟩:=head_parts hh
    rw [tsize_subs] at hts
    simp only [subs,St1.body,St1.els] at hts
    have hlen:∀ l:List St1,(∀ s ∈ l,stmtOK p d s=true)→l.length≤lsize d l:=fun l hl=>len_le_sum _ l fun s hs=>stmtOK_pos (hl s hs)
    have:=hlen b hb
    have:=hlen e he
    refine .mk k t ix v c b e ?_ ?_ (by omega) (by omega) (fun x hx=>FS_ok d x (hb x hx) ?_) fun x hx=>FS_ok d x (he x hx) ?_
    · by_cases hk:k=2
      · exact FE_shape 5 ix (s2 hk)
      · by_cases h4:k=4
        · rw [(q1 h4).2.1];exact FE_e0
        · rw [(q2 h4).2 hk];exact FE_e0
    · by_cases h4:k=4
      · rw [(q1 h4).2.2];exact FE_e0
      · exact FE_shape 5 v (s1 h4)
    · have:=mem_le_lsize (d:=d) hx;omega
    · have:=mem_le_lsize (d:=d) hx;omega
theorem prog_FS {p:Pg} (h:progOK p=true):p.body.length≤60∧∀ s ∈ p.body,FS s:=by
  obtain ⟨h1,h2⟩:=body_of h
  refine ⟨Nat.le_trans (len_le_sum _ _ fun s hs=>stmtOK_pos (h1 s hs)) h2,fun s hs=>FS_ok 5 s (h1 s hs) ?_⟩
  have:=mem_le_lsize (d:=5) hs;omega
theorem linQ_sz {p:Pg} (hok:progOK p=true):(linQ p).vars.length≤1100∧(linQ p).body.length≤4200∧(∀ D,lsize D (linQ p).body≤4200)∧∀ s ∈ (linQ p).body,FS s:=by
  obtain ⟨h1,h2⟩:=body_of hok
  have hl:=prog_len2 hok
  have h:=linB_sz (d:=5) (f:=linS p.arrays 5 (-1) 0) p.body p.vars
  have hb:=bdB (p:=p) 5 (-1) 0 p.vars p.body h1 (Nat.le_refl _) (by omega)
  have key:∀ (l:List St1) (vs:List Int),(∀ s ∈ l,stmtOK p 5 s=true)→p.vars.length≤vs.length→(linB (linS p.arrays 5 (-1) 0) vs l).1.length≤vs.length+17 * lsize 5 l∧∀ D,lsize D (linB (linS p.arrays 5 (-1) 0) vs l).2≤70 * lsize 5 l:=by
    intro l
    induction l with
    | nil=>intro vs _ _;simp [linB,lsize]
    | cons s r ihr =>
      intro vs hok hl
      have h1:=linS_sz 5 (-1) 0 s vs (hok s (by simp)) hl
      have hm:=more_le (lin_more (p:=p) 5 (-1) 0 vs [s] (by simpa using hok s (by simp)) hl)
      simp only [linB] at hm
      have h2:=ihr (linS p.arrays 5 (-1) 0 vs s).1 (fun s hs=>hok s (by simp [hs])) (by omega)
      have e:lsize 5 (s :: r)=tsize 5 s+lsize 5 r:=by simp [lsize]
      refine ⟨by simp only [linB];omega,fun D=>?_⟩
      have:=h1.2 D
      have:=h2.2 D
      simp only [linB,lsize_app]
      omega
  obtain ⟨k1,k2⟩:=key p.body p.vars h1 (Nat.le_refl _)
  have hD:∀ D,lsize D (linQ p).body≤4200:=fun D=>by
    have:=k2 D
    unfold linQ
    simp only
    omega
  have hlen:=len_lsize (linQ p).body
  have:=hD 1
  refine ⟨by unfold linQ;simp only;omega,by omega,hD,fun s hs=>FS_of s (hb s hs) fun D=>?_⟩
  have:=mem_le_lsize (d:=D) hs
  have:=hD D
  omega
end Go.Proofs.YtmjkgjkkpaephaaGreat.CtL
namespace Go.Proofs.YtmjkgjkkpaephaaGreat.CtD
open Go Go.CT CtF CtR
open CtL (e0 cE vE rdE bE selE hitE asg sto maskE readN readS stoN stoS linK lab1 linE linB linO maskS linI linS linQ linP)
theorem constS (n:Int):DC Tryz.prog 186 [DI .i64 n] [] (fun r h=>r = .agg (cE n).cells∧h=[]):=by
  refine dcZ Tryz.func186 ?_
  simp only [go_sem]
  iterate 2 ((try (refine drvZ Tryz.func186 ?_;simp only [go_sem]));((with_reducible and_intros)<;>try exact sd))
  refine RetOb.ofQ (fun _=>none) [] (.agg (Ex.cells (cE n))) [] ?_ ⟨rfl,rfl⟩ (by simp)
  simp [enumL,hOf,DM,DMs,CM,CMs,HpOK,LowOK,cE,Ex.cells,Ex.cellsL]
theorem varS (n:Int):DC Tryz.prog 140 [DI .i64 n] [] (fun r h=>r = .agg (vE n).cells∧h=[]):=by
  refine dcZ Tryz.func140 ?_
  simp only [go_sem]
  iterate 2 ((try (refine drvZ Tryz.func140 ?_;simp only [go_sem]));((with_reducible and_intros)<;>try exact sd))
  refine RetOb.ofQ (fun _=>none) [] (.agg (Ex.cells (vE n))) [] ?_ ⟨rfl,rfl⟩ (by simp)
  simp [enumL,hOf,DM,DMs,CM,CMs,HpOK,LowOK,vE,Ex.cells,Ex.cellsL]
theorem nodeS (k:Int) (ks:List Ex):DC Tryz.prog 187 [DI .i64 k,.c (.msl 0 3 0 ks.length)] [some (exC ks)] (fun r h=>r = .agg (Ex.cells (.mk k 0 ks))∧h=[none]):=by
  refine dcZ Tryz.func187 ?_
  simp only [go_sem]
  iterate 2 ((try (refine drvZ Tryz.func187 ?_;simp only [go_sem]));((with_reducible and_intros)<;>try exact sd))
  refine RetOb.ofQ (fun j=>if j=0 then some 0 else none) [0] (.agg (Ex.cells (.mk k 0 ks))) [none] ?_ ⟨rfl,rfl⟩ (by simp)
  have g1:(Ex.cellsL ks).flatten=exC ks:=by rw [Ex.cellsL_eq];rfl
  have g2:∀ x ∈ Ex.cellsL ks,x.length=3:=fun x hx=>by rw [Ex.cellsL_eq] at hx;obtain ⟨e,_,rfl⟩:=List.mem_map.1 hx;exact Ex.cells_len e
  have g3:∀ x ∈ Ex.cellsL ks,∀ c ∈ x,kf c=true:=fun x hx=>by rw [Ex.cellsL_eq] at hx;obtain ⟨e,_,rfl⟩:=List.mem_map.1 hx;exact ex_kf e
  simp only [enumL,hOf,DM,DMs,CM,CMs,HpOK,LowOK,upd,hpL,Ex.cells,Ex.cellsL_length,g1]
  simp
  exact ⟨g2,g3⟩
theorem RetOb.node {R:D→List (Option (List C))→Prop} {k v:Int} {ks:List Ex} {hp:Hp} {j n:Nat} {cs:List C} (hR:R (.agg (Ex.cells (.mk k v ks))) []) (h:hp j=some (some cs)) (hc:cs=exC ks) (hn:n=ks.length):RetOb 0 R (.agg [I64 k,I64 v,.msl j 3 0 n]) hp:=by
  subst hc hn
  refine RetOb.ofQ (fun _=>none) [j] (.agg (Ex.cells (.mk k v ks))) [] ?_ hR (by simp)
  have g1:(Ex.cellsL ks).flatten=exC ks:=by rw [Ex.cellsL_eq];rfl
  have g2:∀ x ∈ Ex.cellsL ks,x.length=3:=fun x hx=>by rw [Ex.cellsL_eq] at hx;obtain ⟨e,_,rfl⟩:=List.mem_map.1 hx;exact Ex.cells_len e
  have g3:∀ x ∈ Ex.cellsL ks,∀ c ∈ x,kf c=true:=fun x hx=>by rw [Ex.cellsL_eq] at hx;obtain ⟨e,_,rfl⟩:=List.mem_map.1 hx;exact ex_kf e
  simp [enumL,hOf,DM,DMs,CM,CMs,HpOK,LowOK,upd,hpL,Ex.cells,Ex.cellsL_length,g1,h]
  exact ⟨g2,g3⟩
theorem RetOb.kfA {R:D→List (Option (List C))→Prop} {cs:List C} {hp:Hp} (hR:R (.agg cs) []) (h:∀ c ∈ cs,kf c=true):RetOb 0 R (.agg cs) hp:=by
  refine RetOb.ofQ (fun _=>none) [] (.agg cs) [] ?_ hR (by simp)
  simp only [enumL,hOf,DM,HpOK,LowOK]
  simp
  exact CMs.kf h
theorem readS1 (t:Int) (i:Ex):DC Tryz.prog 145 [DI .i64 t,.agg i.cells] [] (fun r h=>r = .agg (rdE t i).cells∧h=[]):=by
  have hmx:=mx_eq
  obtain ⟨k,v,ks⟩:=i
  refine dcZ Tryz.func145 ?_
  simp only [go_sem]
  iterate 2 ((try (refine drvZ Tryz.func145 ?_;simp only [go_sem]));((with_reducible and_intros)<;>try exact sd))
  exact RetOb.node (ks:=[.mk k v ks]) ⟨rfl,rfl⟩ (by simp [upd];rfl) (by simp [exC,Ex.cells]) rfl
theorem exC2 (a b:Ex):exC [a,b]=a.cells++b.cells:=by simp [exC]
theorem exC3 (a b c:Ex):exC [a,b,c]=a.cells++(b.cells++c.cells):=by simp [exC]
theorem hitS (i:Ex) (k:Int):DC Tryz.prog 188 [.agg i.cells,DI .i64 k] [] (fun r h=>r = .agg (hitE i k).cells∧h=[]):=by
  have hmx:=mx_eq
  have c1:=constS 3
  have c2:=constS k
  have n1:=nodeS 7 [i,cE 3]
  have n2:=nodeS 9 [bE 7 i (cE 3),cE k]
  obtain ⟨ik,iv,iks⟩:=i
  rw [exC2] at n1 n2
  simp only [cE,bE,Ex.cells,Ex.cellsL,List.cons_append,List.nil_append,List.length_cons,List.length_nil] at c1 c2 n1 n2
  refine dcZ Tryz.func188 ?_
  simp only [go_sem]
  iterate 1 ((try (refine drvZ Tryz.func188 ?_;simp only [go_sem]));((with_reducible and_intros)<;>try exact sd);(try first | refine XK.p c1 ok186 ?_ | refine XK.gp c1 ok186 ?_))
  ((try (refine drvZ Tryz.func188 ?_;simp only [go_sem]));((with_reducible and_intros)<;>try exact sd))
  refine XK.callG [256] n1 ok187 (hhpG (by simp [HH,upd,renCs,renC])) (hbT ()) (fun d h' ⟨_,e⟩=>by subst e;simp) ?_ (fun _=>⟨by kernel_rfl,_,_,⟨rfl,rfl⟩,by simp⟩)
  rintro _ _ ⟨rfl,rfl⟩ _
  iterate 2 ((try (refine drvZ Tryz.func188 ?_;simp only [go_sem]));((with_reducible and_intros)<;>try exact sd);(try first | refine XK.p c2 ok186 ?_ | refine XK.gp c2 ok186 ?_))
  ((try (refine drvZ Tryz.func188 ?_;simp only [go_sem]));((with_reducible and_intros)<;>try exact sd))
  refine XK.callG [512] n2 ok187 (hhpG (by simp [HH,upd,renCs,renC])) (hbT ()) (fun d h' ⟨_,e⟩=>by subst e;simp) ?_ (fun _=>⟨by kernel_rfl,_,_,⟨rfl,rfl⟩,by simp⟩)
  rintro _ _ ⟨rfl,rfl⟩ _
  iterate 2 ((try (refine drvZ Tryz.func188 ?_;simp only [go_sem]));((with_reducible and_intros)<;>try exact sd))
  exact RetOb.kfA ⟨rfl,rfl⟩ (by simp [kf])
theorem maskES (mk:Int) (e f:Ex):DC Tryz.prog 139 [DI .i64 mk,.agg e.cells,.agg f.cells] [] (fun r h=>r = .agg (maskE mk e f).cells∧h=[]):=by
  have hmx:=mx_eq
  have c1:=varS mk
  have n1:=nodeS 11 [vE mk,e,f]
  obtain ⟨ek,ev,eks⟩:=e
  obtain ⟨fk,fv,fks⟩:=f
  rw [exC3] at n1
  simp only [vE,Ex.cells,Ex.cellsL,List.cons_append,List.nil_append,List.length_cons,List.length_nil] at c1 n1
  by_cases hm:mk<0
  · have hg:=eq_true hm
    have he:maskE mk (.mk ek ev eks) (.mk fk fv fks) = .mk ek ev eks:=by simp [maskE,hm]
    rw [he]
    refine dcZ Tryz.func139 ?_
    simp only [go_sem,hg]
    iterate 2 ((try (refine drvZ Tryz.func139 ?_;simp only [go_sem,hg]));((with_reducible and_intros)<;>try exact sd))
    exact RetOb.kfA ⟨rfl,rfl⟩ (by simp [kf])
  · have hg:=eq_false hm
    have he:maskE mk (.mk ek ev eks) (.mk fk fv fks)=selE (vE mk) (.mk ek ev eks) (.mk fk fv fks):=by simp [maskE,hm]
    rw [he]
    refine dcZ Tryz.func139 ?_
    simp only [go_sem,hg]
    iterate 3 ((try (refine drvZ Tryz.func139 ?_;simp only [go_sem,hg]));((with_reducible and_intros)<;>try exact sd);(try first | refine XK.p c1 ok140 ?_ | refine XK.gp c1 ok140 ?_))
    refine XK.callG [576] n1 ok187 (hhpG (by simp [HH,upd,renCs,renC])) (hbT ()) (fun d h' ⟨_,e⟩=>by subst e;simp) ?_ (fun _=>⟨by kernel_rfl,_,_,⟨rfl,rfl⟩,by simp⟩)
    rintro _ _ ⟨rfl,rfl⟩ _
    iterate 2 ((try (refine drvZ Tryz.func139 ?_;simp only [go_sem]));((with_reducible and_intros)<;>try exact sd))
    exact RetOb.kfA ⟨rfl,rfl⟩ (by simp [kf])
theorem asgS (vs ar : List Int) (out : List St1) (w : Int) (e : Ex) (hl : out.length ≤ 1048576) : DC Tryz.prog 138 [.agg [isI vs, isI ar, .v (.slice none 0 0), .msl 0 11 0 out.length], DI .i64 w, .agg e.cells] [some (stC out)]
    (fun r h=>r = .agg [isI vs,isI ar,.v (.slice none 0 0),.msl 1 11 0 (out++[asg w e]).length]∧h=[none,some (stC (out++[asg w e]))]):=by
  have hmx:=mx_eq
  have hcl:=stC_len out
  obtain ⟨ek,ev,eks⟩:=e
  refine dcZ Tryz.func138 ?_
  simp only [go_sem]
  iterate 3 ((try (refine drvZ Tryz.func138 ?_;simp only [go_sem]));((with_reducible and_intros)<;>try exact sd))
  refine RetOb.ofQ (fun j=>if j=1 then some 577 else some j) [] (.agg [isI vs,isI ar,.v (.slice none 0 0),.msl 1 11 0 (out++[asg w (.mk ek ev eks)]).length]) [none,some (stC (out++[asg w (.mk ek ev eks)]))] ?_ ⟨rfl,rfl⟩ (by simp)
  simp [enumL,hOf,DM,DMs,CM,CMs,HpOK,LowOK,upd,hpL,isI,stC_snoc,asg,e0,St1.cells,St1.cellsL,Ex.cells,Ex.cellsL]
  exact CMs.app (CMs.kf (stC_kf _)) (by simp [CMs,CM])
theorem freshS (vs ar : List Int) (out : List St1) (l : Int) (hl : out.length ≤ 1048576) (hv : vs.length ≤ 1048576) : DC Tryz.prog 185 [.agg [isI vs, isI ar, .v (.slice none 0 0), .msl 0 11 0 out.length], DI .i64 l] [some (stC out)]
    (fun r h=>r = .tup [.agg [isI (vs++[l]),isI ar,.v (.slice none 0 0),.msl 0 11 0 out.length],DI .i64 vs.length]∧h=[some (stC out)]):=by
  have hmx:=mx_eq
  refine dcZ Tryz.func185 ?_
  simp only [go_sem,flat_I']
  iterate 3 ((try (refine drvZ Tryz.func185 ?_;simp only [go_sem,flat_I']));((with_reducible and_intros)<;>try exact sd))
  refine RetOb.ofQ (fun j=>if j=0 then some 0 else none) [641] (.tup [.agg [isI (vs++[l]),isI ar,.v (.slice none 0 0),.msl 0 11 0 out.length],DI .i64 vs.length]) [some (stC out)] ?_ ⟨rfl,rfl⟩ (by simp)
  simp [enumL,hOf,DM,DMs,CM,CMs,HpOK,LowOK,upd,hpL,isI]
  refine ⟨⟨(flat_I vs).symm,?_,?_⟩,CMs.kf (stC_kf _)⟩
  · rintro x (⟨a,_,rfl⟩ | rfl)<;>rfl
  · rintro x (⟨a,_,rfl⟩ | rfl) c hc<;>simp at hc<;>subst hc<;>rfl
theorem linK_snoc {f : List Int → Ex → List Int × List St1 × Ex} : ∀ (l : List Ex) (vs : List Int) (x : Ex), linK f vs (l ++ [x]) = ((f (linK f vs l).1 x).1, (linK f vs l).2.1 ++ (f (linK f vs l).1 x).2.1, (linK f vs l).2.2 ++ [(f (linK f vs l).1 x).2.2])
  | [],vs,x=>by simp [linK]
  | e :: r,vs,x=>by simp only [List.cons_append,linK,linK_snoc r,List.append_assoc]
theorem linK_len {f : List Int → Ex → List Int × List St1 × Ex} : ∀ (l : List Ex) (vs : List Int), (linK f vs l).2.2.length = l.length
  | [],vs=>rfl
  | e :: r,vs=>by simp only [linK,List.length_cons,linK_len r]
theorem lab3_app {a b:List Int} (h:lab3 a) (g:lab3 b):lab3 (a++b):=fun x hx=>(List.mem_append.1 hx).elim (h x) (g x)
theorem lab3_lab1 {a b:Nat} (h:a≤3) (g:b≤3):lab3 (lab1 a b):=fun x hx=>by
  simp only [lab1,List.mem_singleton] at hx
  have:=or3 h g
  omega
theorem linE_lab3 {ar : List Int} {pc : Nat} (hp : pc ≤ 3) (h2 : lab3 ar) : ∀ (d : Nat) (vs : List Int) (e : Ex), lab3 vs → lab3 (linE ar pc d vs e).1
  | 0,vs,e,h=>h
  | d+1,vs,.mk k v ks,h=>by
    have hk:∀ (l:List Ex) (vs:List Int),lab3 vs→lab3 (linK (linE ar pc d) vs l).1:=by
      intro l
      induction l with
      | nil=>intro vs h;exact h
      | cons a r ih=>intro vs h;simp only [linK];exact ih _ (linE_lab3 hp h2 d vs a h)
    simp only [linE]
    split
    · exact lab3_app (hk ks vs h) (lab3_lab1 (labN_le (hk ks vs h) h2 _ _) hp)
    · exact hk ks vs h
theorem labelL (vs ar : List Int) (hl : vs.length ≤ mx) (hl2 : ar.length ≤ mx) (h1 : lab3 vs) (h2 : lab3 ar) (d : Nat) (e : Ex) (hs : CtR.shape ⟨vs, ar, []⟩ d e = true) :
    DC Tryz.prog 142 [.agg [isI vs,isI ar,.v (.slice none 0 0)],.agg e.cells] [] (fun r h=>r=DI .i64 (labN vs ar d e)∧h=[]) :=
  DC.nilAgg [] [.agg e.cells] 11 [isI vs,isI ar] [] (labelS ⟨vs,ar,[]⟩ hl hl2 h1 h2 d e hs)
theorem RetOb.linO {R : D → List (Option (List C)) → Prop} {V ar : List Int} {out' : List St1} {ek ev : Int} {eks : List Ex} {hp : Hp} {kt j n n2 : Nat} {cs cs2 : List C}
    (hR:R (.tup [.agg [isI V,isI ar,.v (.slice none 0 0),.msl 1 11 0 out'.length],.agg (Ex.cells (.mk ek ev eks))]) [none,some (stC out')])
    (h:hp kt=some (some cs)) (hc:cs=stC out') (hn:n=out'.length) (hk:1≤kt) (h2:hp j=some (some cs2)) (hc2:cs2=exC eks) (hn2:n2=eks.length) (hne:kt ≠ j) :
    RetOb 1 R (.tup [.agg [isI V,isI ar,.v (.slice none 0 0),.msl kt 11 0 n],.agg [I64 ek,I64 ev,.msl j 3 0 n2]]) hp:=by
  subst hc hn hc2 hn2
  refine RetOb.ofQ (fun j=>if j=1 then some kt else some j) [j] (.tup [.agg [isI V,isI ar,.v (.slice none 0 0),.msl 1 11 0 out'.length],.agg (Ex.cells (.mk ek ev eks))]) [none,some (stC out')] ?_ hR (by simp)
  have g1:(Ex.cellsL eks).flatten=exC eks:=by rw [Ex.cellsL_eq];rfl
  have g2:∀ x ∈ Ex.cellsL eks,x.length=3:=fun x hx=>by rw [Ex.cellsL_eq] at hx;obtain ⟨e,_,rfl⟩:=List.mem_map.1 hx;exact Ex.cells_len e
  have g3:∀ x ∈ Ex.cellsL eks,∀ c ∈ x,kf c=true:=fun x hx=>by rw [Ex.cellsL_eq] at hx;obtain ⟨e,_,rfl⟩:=List.mem_map.1 hx;exact ex_kf e
  simp [enumL,hOf,DM,DMs,CM,CMs,HpOK,LowOK,upd,isI,Ex.cells,Ex.cellsL_length,g1,h,h2,hne,CMs.kf (stC_kf _)]
  exact ⟨g2,g3⟩
theorem RetOb.linP {R : D → List (Option (List C)) → Prop} {V ar : List Int} {out' : List St1} {ce : List C} {hp : Hp} {kt n : Nat} {cs : List C}
    (hR:R (.tup [.agg [isI V,isI ar,.v (.slice none 0 0),.msl 1 11 0 out'.length],.agg ce]) [none,some (stC out')])
    (h:hp kt=some (some cs)) (hc:cs=stC out') (hn:n=out'.length) (hk:1≤kt) (hce:∀ c ∈ ce,kf c=true) :
    RetOb 1 R (.tup [.agg [isI V,isI ar,.v (.slice none 0 0),.msl kt 11 0 n],.agg ce]) hp:=by
  subst hc hn
  refine RetOb.ofQ (fun j=>if j=1 then some kt else some j) [] (.tup [.agg [isI V,isI ar,.v (.slice none 0 0),.msl 1 11 0 out'.length],.agg ce]) [none,some (stC out')] ?_ hR (by simp)
  simp [enumL,hOf,DM,DMs,CM,CMs,HpOK,LowOK,upd,isI,h,CMs.kf (stC_kf _),CMs.kf hce]
end Go.Proofs.YtmjkgjkkpaephaaGreat.CtD
