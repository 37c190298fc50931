/- Contracts of functions of the program, one behind the other, as plain data: what each call returns and which blocks it leaves. -/
import Derived.Test.YtfkhahkclgejnaaGreatDoorGFacts
import Derived.Test.YtfkhahkclgejnaaGreatDoorGAl
import Derived.Test.YtfkhahkclgejnaaGreatDoorGAm
import Derived.Test.YtfkhahkclgejnaaGreatDoorGAj
import Derived.Test.YtfkhahkclgejnaaGreatDoorGXy
set_option linter.unusedVariables false
set_option linter.unusedSimpArgs false
set_option linter.unusedSectionVars false
set_option maxHeartbeats 16000000
set_option maxRecDepth 100000
namespace Go.Proofs.YtfkhahkclgejnaaGreatDoor.CtD
open Go Go.CT CtF CtR
variable [Yn]
theorem l2SmallV (bs : List Int) (n : Nat) (p : Lv) (hb : Fits .u8 bs) (hl : bs.length ≤ 2000) (hp : p.vars.length ≤ mx) (hp2 : p.arrays.length ≤ mx) (hn : n + 2000 ≤ 1099511627776) : DC Tryz.prog 123 [.c (.ptr 0 0), .agg p.cells] [some (rdr bs n)]
    (fun r h=>∃ e:Ex,r = .agg e.cells∧SmE e∧rdL bs n 1100 h):=by
  have hmx:=mx_eq
  have hat:=fun n h=>l2DrawAtomV bs n p hb hl h hp
  have hdr:=fun d n h1 h2=>l2DrawV bs p hb hl hp hp2 d n h1 h2
  have hrt:=fun e=>l2RightV p e hp hp2
  obtain ⟨vs,ar,bd⟩:=p
  refine dcZ Tryz.func123 ?_
  simp only [go_sem,rdr]
  iterate 1 (try (refine drvZ Tryz.func123 ?_;simp only [go_sem,rdr]))
  (with_reducible and_intros)<;>try exact sd
  refine XK.callG [0,321] (numO bs n [2,3,2,1,4] hb hl (by omega) (by decide) (by decide)) ok77 (hhp2 rfl rfl) (hbT ()) (fun d h' ⟨_,_,_,e⟩=>by subst e;simp) ?_ (fun _=>⟨by kernel_rfl,_,_,⟨2,rfl,by simp,rfl⟩,by simp⟩)
  rintro _ _ ⟨dv,rfl,hdv,rfl⟩ _
  obtain ⟨d,rfl,hd1,hd4⟩:∃ d:Nat,dv=(d:Int)∧1≤d∧d≤4:=⟨dv.toNat,by simp at hdv;omega,by simp at hdv;omega,by simp at hdv;omega⟩
  have hK:KD d≤1024:=by unfold KD;exact Nat.le_trans (Nat.pow_le_pow_right (by omega) (show d+1≤5 by omega)) (by decide)
  iterate 1 (try (refine drvZ Tryz.func123 ?_;simp only [go_sem,rdr]))
  (with_reducible and_intros)<;>try exact sd
  refine XK.callG [0] (hdr d (n+1) (by omega) (by omega)) ok126 (hhp_one rfl) (hbT ()) (fun d h' ⟨_,_,_,_,_,_,e⟩=>by subst e;simp) ?_ (fun _=>⟨by kernel_rfl,_,_,⟨.mk 2 0 [],rfl,.mk _ _ _ (by simp) (fun x hx=>by simp at hx),n+1,by omega,by omega,rfl⟩,by simp⟩)
  rintro _ _ ⟨⟨k,v,ks⟩,rfl,he,n',hn1,hn2,rfl⟩ _
  iterate 2 (try (refine drvZ Tryz.func123 ?_;simp only [go_sem,rdr]))
  (with_reducible and_intros)<;>try exact sd
  iterate 1 (try (refine drvZ Tryz.func123 ?_;simp only [go_sem,rdr]))
  refine XK.plain (hrt (.mk k v ks)) ok127 ?_ (hbT ())
  cases hq:right (Lv.pg ⟨vs,ar,bd⟩) (.mk k v ks) with
  | true =>
    iterate 2 (try (refine drvZ Tryz.func123 ?_;simp only [go_sem,rdr,hq]))
    exact RetOb.keep1 (d := .agg (Ex.cells (.mk k v ks))) (cs:=rdr bs n') ⟨.mk k v ks,rfl,he,n',by omega,by omega,rfl⟩ rfl (rdr_kf _ _) (ex_kf _)
  | false =>
    iterate 2 (try (refine drvZ Tryz.func123 ?_;simp only [go_sem,rdr,hq]))
    refine XK.callG [0] (hat n' (by omega)) ok122 (hhp_one rfl) (hbT ()) (fun d h' ⟨_,_,_,_,_,_,e⟩=>by subst e;simp) ?_
    rintro _ _ ⟨⟨k2,v2,ks2⟩,rfl,he2,n2,hn3,hn4,rfl⟩ _
    iterate 2 (try (refine drvZ Tryz.func123 ?_;simp only [go_sem,rdr]))
    exact RetOb.keep1 (d := .agg (Ex.cells (.mk k2 v2 ks2))) (cs:=rdr bs n2) ⟨.mk k2 v2 ks2,rfl,SmE.atom he2,n2,by omega,by omega,rfl⟩ rfl (rdr_kf _ _) (ex_kf _)
theorem l2DrawBlockOfV (bs : List Int) (p : Lv) (dep : Int) (Q : St1 → Prop) (K : Nat) (hK : K ≤ 1000000000)
    (hst:∀ n:Nat,n+K≤549755813888→DC Tryz.prog 113 [.c (.ptr 0 0),.agg p.cells,DI .i64 dep] [some (rdr bs n)] (fun r h=>∃ s:St1,r = .agg s.cells∧Q s∧rdL bs n K h))
    (n nn : Nat) (hnn : nn ≤ 4) (hn : n + 4 * K ≤ 549755813888) : DC Tryz.prog 97 [.c (.ptr 0 0), .agg p.cells, DI .i64 dep, DI .i64 nn] [some (rdr bs n)]
      (fun r h=>∃ l:List St1,r = .c (.isl 11 (St1.cellsL l))∧l.length≤4∧(∀ s ∈ l,Q s)∧rdL bs n (4 * K) h):=by
  have hmx:=mx_eq
  obtain ⟨vs,ar,bd⟩:=p
  refine dcZ Tryz.func97 ?_
  simp only [go_sem,rdr]
  iterate 2 (try (refine drvZ Tryz.func97 ?_;simp only [go_sem,rdr]))
  refine Go.loopQ (fun x : Nat × Nat × List St1 => [(0, .c (.ptr 0 0)), (2, DI .i64 dep), (3, DI .i64 nn), (5, .c (.ptr 1 0)), (9, .c (.msl 67 11 0 x.2.2.length)), (10, DI .i64 x.1)])
    (fun x=>[(0,some (rdr bs x.2.1)),(1,some (Lv.cells ⟨vs,ar,bd⟩)),(67,some (stC x.2.2))])
    4096 (fun x=>x.2.2.length=x.1∧x.1≤nn∧(∀ s ∈ x.2.2,Q s)∧n≤x.2.1∧x.2.1≤n+x.1 * K) (fun x=>nn - x.1) ?_ (0,n,[]) (fun j=>if j=67 then some 129 else some j) [] _ ⟨rfl,by simp,by simp,by simp,by simp⟩ ?_
  · rintro ⟨i,pos,l⟩ ⟨hi1,hi2,hi3,hi4,hi5⟩ again
    simp only at hi1 hi2 hi3 hi4 hi5
    have hik:i * K≤4 * K:=Nat.mul_le_mul_right _ (by omega)
    rcases Nat.lt_or_ge i nn with hlt | hge
    · have hsl:=stC_len l
      have hik2:(i+1) * K≤4 * K:=Nat.mul_le_mul_right _ (by omega)
      rw [Nat.add_mul,Nat.one_mul] at hik2
      refine drvL Tryz.func97 ?_
      simp only [go_sem,rdr,hlt]
      iterate 2 (try (refine drvZ Tryz.func97 ?_;simp only [go_sem,rdr,hlt]))
      refine XK.callG [0] (hst pos (by omega)) ok113 (hhp_one rfl) (hbT ()) (fun d h' ⟨_,_,_,_,_,_,e⟩=>by subst e;simp) ?_
      rintro _ _ ⟨⟨k,t,⟨ik,iv,iks⟩,⟨vk,vv,vks⟩,c,b,e⟩,rfl,hs,n',hn1,hn2,rfl⟩ _
      iterate 3 (try (refine drvZ Tryz.func97 ?_;simp only [go_sem,rdr]))
      (with_reducible and_intros)<;>try exact sd
      refine again (i+1,n',l++[(.mk k t (.mk ik iv iks) (.mk vk vv vks) c b e)]) (fun j=>if j=67 then some 4672 else some j) [] _ ⟨by simp;omega,by omega,?_,by simp only;omega,?_⟩ (by simp only;omega) ?_
      · intro x hx
        rcases List.mem_append.1 hx with h | h
        · exact hi3 x h
        · rw [List.mem_singleton.1 h];exact hs
      · simp only [Nat.add_mul,Nat.one_mul];omega
      · simp only [go_sem,TmOK,DM,DMs,CM,CMs,forall_eq,exists_eq_left,Mq,HpOK,LowOK,rdr,stC_snoc,List.cons_append,List.nil_append]
        simp
        exact CMs.kf (kf_app (stC_kf _) (by simp [kf]))
    · have hnl:¬ i<nn:=by omega
      refine drvL Tryz.func97 ?_
      simp only [go_sem,rdr,hnl]
      iterate 2 (try (refine drvZ Tryz.func97 ?_;simp only [go_sem,rdr,hnl]))
      refine RetOb.ofQ (fun j=>if j=0 then some 0 else none) [67] (.c (.isl 11 (St1.cellsL l))) [some (rdr bs pos)] ?_ ⟨l,rfl,by omega,hi3,pos,hi4,by omega,rfl⟩ (by simp)
      have g1:(St1.cellsL l).flatten=stC l:=by rw [St1.cellsL_eq];rfl
      have g2:∀ x ∈ St1.cellsL l,x.length=11:=fun x hx=>by rw [St1.cellsL_eq] at hx;obtain ⟨e,_,rfl⟩:=List.mem_map.1 hx;exact St1.cells_len e
      have g3:∀ x ∈ St1.cellsL l,∀ c ∈ x,kf c=true:=fun x hx=>by rw [St1.cellsL_eq] at hx;obtain ⟨e,_,rfl⟩:=List.mem_map.1 hx;exact st_kf e
      simp only [enumL,hOf,DM,DMs,CM,CMs,HpOK,LowOK,upd,rdr,St1.cellsL_length,g1]
      first | (simp;exact ⟨g2,g3⟩) | (simp [g2];exact g3) | exact ⟨g2,g3⟩
  · simp only [go_sem,TmOK,DM,DMs,CM,CMs,forall_eq,exists_eq_left,Mq,HpOK,LowOK,rdr]
    simp [stC,CMs]
theorem l2DrawStmtOfV (bs : List Int) (p : Lv) (hb : Fits .u8 bs) (hl : bs.length ≤ 2000) (hp : p.vars.length ≤ mx) (hp2 : p.arrays.length ≤ mx) (d : Nat) (hd : d ≤ 3)
    (ih : ∀ d', d = d' + 1 → ∀ (n nn : Nat), nn ≤ 4 → n + 4 * KS d' ≤ 549755813888 → DC Tryz.prog 97 [.c (.ptr 0 0), .agg p.cells, DI .i64 (d' + 1 : Nat), DI .i64 nn] [some (rdr bs n)]
      (fun r h=>∃ l:List St1,r = .c (.isl 11 (St1.cellsL l))∧l.length≤4∧(∀ s ∈ l,SmS d' s)∧rdL bs n (4 * KS d') h))
    (n:Nat) (hn:n+KS d≤549755813888):DC Tryz.prog 113 [.c (.ptr 0 0),.agg p.cells,DI .i64 (d+1:Nat)] [some (rdr bs n)] (stR bs n d):=by
  have hmx:=mx_eq
  have hat:=fun n h=>l2DrawAtomV bs n p hb hl h hp
  have hsm:=fun n h=>l2SmallV bs n p hb hl hp hp2 h
  have hKS:=KS_ge d
  have hKS2:=KS_le d hd
  generalize hR:stR bs n d=R
  obtain ⟨vs,ar,bd⟩:=p
  have hp:vs.length≤mx:=hp
  have hp2:ar.length≤mx:=hp2
  refine dcZ Tryz.func113 ?_
  simp only [go_sem,rdr]
  (with_reducible and_intros)<;>try exact sd
  refine XK.callG [0,193] (numO bs n [1,1,2,3,4,1,3,5] hb hl (by omega) (by decide) (by decide)) ok77 (hhp2 rfl rfl) (hbT ()) (fun d h' ⟨_,_,_,e⟩=>by subst e;simp) ?_
  rintro _ _ ⟨kv,rfl,hkv,rfl⟩ _
  simp only [List.mem_cons,List.not_mem_nil,or_false] at hkv
  have hk:kv=2∧0<ar.length∨kv=3∧0<d∨kv=4∧0<d∨(kv=1∨kv=5∨kv=2∧ar.length=0∨kv=3∧d=0∨kv=4∧d=0):=by omega
  clear hkv
  rcases hk with ⟨rfl,hal⟩ | ⟨rfl,hdl⟩ | ⟨rfl,hdl⟩ | hk
  · have e1:((0:Int)<(ar.length:Int))=True:=eq_true (by omega)
    iterate 5 (try (refine drvZ Tryz.func113 ?_;simp only [go_sem,rdr,e1]))
    refine XK.callG [0] (pick bs (n+1) ar.length hb hl (by omega) (by simp only [InK];omega)) ok74 (hhp_one rfl) (hbT ()) (fun d h' ⟨v,_,_,e⟩=>by subst e;simp) ?_
    rintro _ _ ⟨v1,rfl,hv1,rfl⟩ _
    iterate 2 (try (refine drvZ Tryz.func113 ?_;simp only [go_sem,rdr]))
    refine XK.callG [0] (hat (n+2) (by omega)) ok122 (hhp_one rfl) (hbT ()) (fun d h' ⟨_,_,_,_,_,_,e⟩=>by subst e;simp) ?_
    rintro _ _ ⟨⟨k1,w1,ks1⟩,rfl,he1,n1,hn1,hm1,rfl⟩ _
    iterate 2 (try (refine drvZ Tryz.func113 ?_;simp only [go_sem,rdr]))
    refine XK.callG [0] (hsm n1 (by omega)) ok123 (hhp_one rfl) (hbT ()) (fun d h' ⟨_,_,_,_,_,_,e⟩=>by subst e;simp) ?_
    rintro _ _ ⟨⟨k2,w2,ks2⟩,rfl,he2,n2,hn2,hm2,rfl⟩ _
    iterate 2 (try (refine drvZ Tryz.func113 ?_;simp only [go_sem,rdr]))
    refine RetOb.ofQ (fun j=>if j=0 then some 0 else none) [] (.agg (St1.cells (.mk 2 v1 (.mk k1 w1 ks1) (.mk k2 w2 ks2) 0 [] []))) [some (rdr bs n2)] ?_ ?_ (by simp)
    · simp [enumL,hOf,DM,DMs,CM,CMs,HpOK,LowOK,upd,Ex.cells,Ex.cellsL,St1.cells,St1.cellsL,rdr,kf]
    · rw [← hR];exact ⟨.mk 2 v1 (.mk k1 w1 ks1) (.mk k2 w2 ks2) 0 [] [],rfl,SmS.leaf (SmE.atom he1) he2,n2,by omega,by omega,rfl⟩
  · obtain ⟨d',rfl⟩:∃ d',d=d' + 1:=⟨d - 1,by omega⟩
    have hKK:KS (d' + 1)=1200+8 * KS d':=rfl
    have e1:((1:Int)<((d':Int)+1+1))=True:=eq_true (by omega)
    iterate 5 (try (refine drvZ Tryz.func113 ?_;simp only [go_sem,rdr,e1]))
    refine XK.callG [0] (hsm (n+1) (by omega)) ok123 (hhp_one rfl) (hbT ()) (fun d h' ⟨_,_,_,_,_,_,e⟩=>by subst e;simp) ?_
    rintro _ _ ⟨⟨k2,w2,ks2⟩,rfl,he2,n2,hn2,hm2,rfl⟩ _
    iterate 2 (try (refine drvZ Tryz.func113 ?_;simp only [go_sem,rdr]))
    (with_reducible and_intros)<;>try exact sd
    refine XK.callG [0,2305] (numO bs n2 [1,2,1,0] hb hl (by omega) (by decide) (by decide)) ok77 (hhp2 rfl rfl) (hbT ()) (fun d h' ⟨_,_,_,e⟩=>by subst e;simp) ?_ (fun _=>⟨by kernel_rfl,_,_,⟨1,rfl,by simp,rfl⟩,by simp⟩)
    rintro _ _ ⟨nv,rfl,hnv,rfl⟩ _
    iterate 2 (try (refine drvZ Tryz.func113 ?_;simp only [go_sem,rdr]))
    (with_reducible and_intros)<;>try exact sd
    obtain ⟨nn1,rfl,hnn1⟩:∃ a:Nat,nv=(a:Int)∧a≤4:=⟨nv.toNat,by simp at hnv;omega,by simp at hnv;omega⟩
    refine XK.callG [0] (ih d' rfl (n2+1) nn1 hnn1 (by omega)) ok97 (hhp_one rfl) (hbT ()) (fun d h' ⟨_,_,_,_,_,_,_,e⟩=>by subst e;simp) ?_ (fun _=>⟨by kernel_rfl,_,_,⟨[],rfl,by simp,by simp,(n2+1),by omega,by omega,rfl⟩,by simp⟩)
    rintro _ _ ⟨l1,rfl,hl1,hs1,m1,hp1,hq1,rfl⟩ _
    iterate 3 (try (refine drvZ Tryz.func113 ?_;simp only [go_sem,rdr]))
    (with_reducible and_intros)<;>try exact sd
    refine XK.callG [0,2945] (numO bs m1 [0,1,0,2] hb hl (by omega) (by decide) (by decide)) ok77 (hhp2 rfl rfl) (hbT ()) (fun d h' ⟨_,_,_,e⟩=>by subst e;simp) ?_ (fun _=>⟨by kernel_rfl,_,_,⟨1,rfl,by simp,rfl⟩,by simp⟩)
    rintro _ _ ⟨nv,rfl,hnv,rfl⟩ _
    iterate 2 (try (refine drvZ Tryz.func113 ?_;simp only [go_sem,rdr]))
    (with_reducible and_intros)<;>try exact sd
    obtain ⟨nn3,rfl,hnn3⟩:∃ a:Nat,nv=(a:Int)∧a≤4:=⟨nv.toNat,by simp at hnv;omega,by simp at hnv;omega⟩
    refine XK.callG [0] (ih d' rfl (m1+1) nn3 hnn3 (by omega)) ok97 (hhp_one rfl) (hbT ()) (fun d h' ⟨_,_,_,_,_,_,_,e⟩=>by subst e;simp) ?_ (fun _=>⟨by kernel_rfl,_,_,⟨[],rfl,by simp,by simp,(m1+1),by omega,by omega,rfl⟩,by simp⟩)
    rintro _ _ ⟨l3,rfl,hl3,hs3,m3,hp3,hq3,rfl⟩ _
    iterate 3 (try (refine drvZ Tryz.func113 ?_;simp only [go_sem,rdr]))
    (with_reducible and_intros)<;>try exact sd
    refine RetOb.ofQ (fun j=>if j=0 then some 0 else none) [] (.agg (St1.cells (.mk 3 0 Ex0 (.mk k2 w2 ks2) 0 l1 l3))) [some (rdr bs m3)] ?_ ?_ (by simp)
    · simp [enumL,hOf,DM,DMs,CM,CMs,HpOK,LowOK,upd,Ex.cells,Ex.cellsL,St1.cells,St1.cellsL,Ex0,rdr,kf]
    · rw [← hR];exact ⟨.mk 3 0 Ex0 (.mk k2 w2 ks2) 0 l1 l3,rfl,⟨SmE0,he2,hl1,hl3,hs1,hs3⟩,m3,by omega,by omega,rfl⟩
  · obtain ⟨d',rfl⟩:∃ d',d=d' + 1:=⟨d - 1,by omega⟩
    have hKK:KS (d' + 1)=1200+8 * KS d':=rfl
    have e1:((1:Int)<((d':Int)+1+1))=True:=eq_true (by omega)
    iterate 9 (try (refine drvZ Tryz.func113 ?_;simp only [go_sem,rdr,e1]))
    (with_reducible and_intros)<;>try exact sd
    refine XK.callG [0,2177] (numO bs (n+1) [2,1,3] hb hl (by omega) (by decide) (by decide)) ok77 (hhp2 rfl rfl) (hbT ()) (fun d h' ⟨_,_,_,e⟩=>by subst e;simp) ?_ (fun _=>⟨by kernel_rfl,_,_,⟨1,rfl,by simp,rfl⟩,by simp⟩)
    rintro _ _ ⟨cv,rfl,hcv,rfl⟩ _
    iterate 3 (try (refine drvZ Tryz.func113 ?_;simp only [go_sem,rdr]))
    (with_reducible and_intros)<;>try exact sd
    refine XK.callG [0,2753] (numO bs (n+2) [1,2,1] hb hl (by omega) (by decide) (by decide)) ok77 (hhp2 rfl rfl) (hbT ()) (fun d h' ⟨_,_,_,e⟩=>by subst e;simp) ?_ (fun _=>⟨by kernel_rfl,_,_,⟨1,rfl,by simp,rfl⟩,by simp⟩)
    rintro _ _ ⟨nv,rfl,hnv,rfl⟩ _
    iterate 2 (try (refine drvZ Tryz.func113 ?_;simp only [go_sem,rdr]))
    (with_reducible and_intros)<;>try exact sd
    obtain ⟨nn1,rfl,hnn1⟩:∃ a:Nat,nv=(a:Int)∧a≤4:=⟨nv.toNat,by simp at hnv;omega,by simp at hnv;omega⟩
    refine XK.callG [0] (ih d' rfl (n+3) nn1 hnn1 (by omega)) ok97 (hhp_one rfl) (hbT ()) (fun d h' ⟨_,_,_,_,_,_,_,e⟩=>by subst e;simp) ?_ (fun _=>⟨by kernel_rfl,_,_,⟨[],rfl,by simp,by simp,(n+3),by omega,by omega,rfl⟩,by simp⟩)
    rintro _ _ ⟨l1,rfl,hl1,hs1,m1,hp1,hq1,rfl⟩ _
    iterate 3 (try (refine drvZ Tryz.func113 ?_;simp only [go_sem,rdr]))
    (with_reducible and_intros)<;>try exact sd
    refine RetOb.ofQ (fun j=>if j=0 then some 0 else none) [] (.agg (St1.cells (.mk 4 0 Ex0 Ex0 cv l1 []))) [some (rdr bs m1)] ?_ ?_ (by simp)
    · simp [enumL,hOf,DM,DMs,CM,CMs,HpOK,LowOK,upd,Ex.cells,Ex.cellsL,St1.cells,St1.cellsL,Ex0,rdr,kf]
    · rw [← hR];exact ⟨.mk 4 0 Ex0 Ex0 cv l1 [],rfl,⟨SmE0,SmE0,hl1,by simp,hs1,by simp⟩,m1,by omega,by omega,rfl⟩
  · rcases hk with rfl | rfl | ⟨rfl,ha0⟩ | ⟨rfl,rfl⟩ | ⟨rfl,rfl⟩
    · skip
      iterate 10 (try (refine drvZ Tryz.func113 ?_;simp only [go_sem,rdr]))
      refine XK.callG [0] (pick bs (n+1) vs.length hb hl (by omega) (by simp only [InK];omega)) ok74 (hhp_one rfl) (hbT ()) (fun d h' ⟨v,_,_,e⟩=>by subst e;simp) ?_
      rintro _ _ ⟨v1,rfl,hv1,rfl⟩ _
      iterate 2 (try (refine drvZ Tryz.func113 ?_;simp only [go_sem,rdr]))
      refine XK.callG [0] (hsm (n+2) (by omega)) ok123 (hhp_one rfl) (hbT ()) (fun d h' ⟨_,_,_,_,_,_,e⟩=>by subst e;simp) ?_
      rintro _ _ ⟨⟨k2,w2,ks2⟩,rfl,he2,n2,hn2,hm2,rfl⟩ _
      iterate 2 (try (refine drvZ Tryz.func113 ?_;simp only [go_sem,rdr]))
      refine RetOb.ofQ (fun j=>if j=0 then some 0 else none) [] (.agg (St1.cells (.mk 1 v1 Ex0 (.mk k2 w2 ks2) 0 [] []))) [some (rdr bs n2)] ?_ ?_ (by simp)
      · simp [enumL,hOf,DM,DMs,CM,CMs,HpOK,LowOK,upd,Ex.cells,Ex.cellsL,St1.cells,St1.cellsL,Ex0,rdr,kf]
      · rw [← hR];exact ⟨.mk 1 v1 Ex0 (.mk k2 w2 ks2) 0 [] [],rfl,SmS.leaf SmE0 he2,n2,by omega,by omega,rfl⟩
    · skip
      iterate 10 (try (refine drvZ Tryz.func113 ?_;simp only [go_sem,rdr]))
      refine XK.callG [0] (pick bs (n+1) vs.length hb hl (by omega) (by simp only [InK];omega)) ok74 (hhp_one rfl) (hbT ()) (fun d h' ⟨v,_,_,e⟩=>by subst e;simp) ?_
      rintro _ _ ⟨v1,rfl,hv1,rfl⟩ _
      iterate 2 (try (refine drvZ Tryz.func113 ?_;simp only [go_sem,rdr]))
      refine XK.callG [0] (hsm (n+2) (by omega)) ok123 (hhp_one rfl) (hbT ()) (fun d h' ⟨_,_,_,_,_,_,e⟩=>by subst e;simp) ?_
      rintro _ _ ⟨⟨k2,w2,ks2⟩,rfl,he2,n2,hn2,hm2,rfl⟩ _
      iterate 2 (try (refine drvZ Tryz.func113 ?_;simp only [go_sem,rdr]))
      refine RetOb.ofQ (fun j=>if j=0 then some 0 else none) [] (.agg (St1.cells (.mk 5 v1 Ex0 (.mk k2 w2 ks2) 0 [] []))) [some (rdr bs n2)] ?_ ?_ (by simp)
      · simp [enumL,hOf,DM,DMs,CM,CMs,HpOK,LowOK,upd,Ex.cells,Ex.cellsL,St1.cells,St1.cellsL,Ex0,rdr,kf]
      · rw [← hR];exact ⟨.mk 5 v1 Ex0 (.mk k2 w2 ks2) 0 [] [],rfl,SmS.leaf SmE0 he2,n2,by omega,by omega,rfl⟩
    · skip
      have e1:((0:Int)<(ar.length:Int))=False:=eq_false (by omega)
      iterate 10 (try (refine drvZ Tryz.func113 ?_;simp only [go_sem,rdr,e1]))
      refine XK.callG [0] (pick bs (n+1) vs.length hb hl (by omega) (by simp only [InK];omega)) ok74 (hhp_one rfl) (hbT ()) (fun d h' ⟨v,_,_,e⟩=>by subst e;simp) ?_
      rintro _ _ ⟨v1,rfl,hv1,rfl⟩ _
      iterate 2 (try (refine drvZ Tryz.func113 ?_;simp only [go_sem,rdr]))
      refine XK.callG [0] (hsm (n+2) (by omega)) ok123 (hhp_one rfl) (hbT ()) (fun d h' ⟨_,_,_,_,_,_,e⟩=>by subst e;simp) ?_
      rintro _ _ ⟨⟨k2,w2,ks2⟩,rfl,he2,n2,hn2,hm2,rfl⟩ _
      iterate 2 (try (refine drvZ Tryz.func113 ?_;simp only [go_sem,rdr]))
      refine RetOb.ofQ (fun j=>if j=0 then some 0 else none) [] (.agg (St1.cells (.mk 1 v1 Ex0 (.mk k2 w2 ks2) 0 [] []))) [some (rdr bs n2)] ?_ ?_ (by simp)
      · simp [enumL,hOf,DM,DMs,CM,CMs,HpOK,LowOK,upd,Ex.cells,Ex.cellsL,St1.cells,St1.cellsL,Ex0,rdr,kf]
      · rw [← hR];exact ⟨.mk 1 v1 Ex0 (.mk k2 w2 ks2) 0 [] [],rfl,SmS.leaf SmE0 he2,n2,by omega,by omega,rfl⟩
    · simp only [Int.natCast_zero]
      have e1:((1:Int)<((0:Int)+1))=False:=eq_false (by omega)
      iterate 10 (try (refine drvZ Tryz.func113 ?_;simp only [go_sem,rdr,e1]))
      refine XK.callG [0] (pick bs (n+1) vs.length hb hl (by omega) (by simp only [InK];omega)) ok74 (hhp_one rfl) (hbT ()) (fun d h' ⟨v,_,_,e⟩=>by subst e;simp) ?_
      rintro _ _ ⟨v1,rfl,hv1,rfl⟩ _
      iterate 2 (try (refine drvZ Tryz.func113 ?_;simp only [go_sem,rdr]))
      refine XK.callG [0] (hsm (n+2) (by omega)) ok123 (hhp_one rfl) (hbT ()) (fun d h' ⟨_,_,_,_,_,_,e⟩=>by subst e;simp) ?_
      rintro _ _ ⟨⟨k2,w2,ks2⟩,rfl,he2,n2,hn2,hm2,rfl⟩ _
      iterate 2 (try (refine drvZ Tryz.func113 ?_;simp only [go_sem,rdr]))
      refine RetOb.ofQ (fun j=>if j=0 then some 0 else none) [] (.agg (St1.cells (.mk 1 v1 Ex0 (.mk k2 w2 ks2) 0 [] []))) [some (rdr bs n2)] ?_ ?_ (by simp)
      · simp [enumL,hOf,DM,DMs,CM,CMs,HpOK,LowOK,upd,Ex.cells,Ex.cellsL,St1.cells,St1.cellsL,Ex0,rdr,kf]
      · rw [← hR];exact ⟨.mk 1 v1 Ex0 (.mk k2 w2 ks2) 0 [] [],rfl,SmS.leaf SmE0 he2,n2,by omega,by omega,rfl⟩
    · simp only [Int.natCast_zero]
      have e1:((1:Int)<((0:Int)+1))=False:=eq_false (by omega)
      iterate 10 (try (refine drvZ Tryz.func113 ?_;simp only [go_sem,rdr,e1]))
      refine XK.callG [0] (pick bs (n+1) vs.length hb hl (by omega) (by simp only [InK];omega)) ok74 (hhp_one rfl) (hbT ()) (fun d h' ⟨v,_,_,e⟩=>by subst e;simp) ?_
      rintro _ _ ⟨v1,rfl,hv1,rfl⟩ _
      iterate 2 (try (refine drvZ Tryz.func113 ?_;simp only [go_sem,rdr]))
      refine XK.callG [0] (hsm (n+2) (by omega)) ok123 (hhp_one rfl) (hbT ()) (fun d h' ⟨_,_,_,_,_,_,e⟩=>by subst e;simp) ?_
      rintro _ _ ⟨⟨k2,w2,ks2⟩,rfl,he2,n2,hn2,hm2,rfl⟩ _
      iterate 2 (try (refine drvZ Tryz.func113 ?_;simp only [go_sem,rdr]))
      refine RetOb.ofQ (fun j=>if j=0 then some 0 else none) [] (.agg (St1.cells (.mk 1 v1 Ex0 (.mk k2 w2 ks2) 0 [] []))) [some (rdr bs n2)] ?_ ?_ (by simp)
      · simp [enumL,hOf,DM,DMs,CM,CMs,HpOK,LowOK,upd,Ex.cells,Ex.cellsL,St1.cells,St1.cellsL,Ex0,rdr,kf]
      · rw [← hR];exact ⟨.mk 1 v1 Ex0 (.mk k2 w2 ks2) 0 [] [],rfl,SmS.leaf SmE0 he2,n2,by omega,by omega,rfl⟩
theorem drawsV (bs:List Int) (p:Lv) (hb:Fits .u8 bs) (hl:bs.length≤2000) (hp:p.vars.length≤mx) (hp2:p.arrays.length≤mx):∀ (d:Nat),d≤3 →
    (∀ n:Nat,n+KS d≤549755813888→DC Tryz.prog 113 [.c (.ptr 0 0),.agg p.cells,DI .i64 (d+1:Nat)] [some (rdr bs n)] (stR bs n d)) ∧
    (∀ (n nn : Nat), nn ≤ 4 → n + 4 * KS d ≤ 549755813888 → DC Tryz.prog 97 [.c (.ptr 0 0), .agg p.cells, DI .i64 (d + 1 : Nat), DI .i64 nn] [some (rdr bs n)]
      (fun r h=>∃ l:List St1,r = .c (.isl 11 (St1.cellsL l))∧l.length≤4∧(∀ s ∈ l,SmS d s)∧rdL bs n (4 * KS d) h)):=by
  intro d
  induction d with
  | zero =>
    intro hd
    have hs:=fun n h=>l2DrawStmtOfV bs p hb hl hp hp2 0 hd (fun d' e=>by omega) n h
    exact ⟨hs,fun n nn h1 h2=>l2DrawBlockOfV bs p ((0+1:Nat):Int) (SmS 0) (KS 0) (by decide) hs n nn h1 h2⟩
  | succ d ih =>
    intro hd
    have hs:=fun n h=>l2DrawStmtOfV bs p hb hl hp hp2 (d+1) hd (fun d' e=>by
      obtain rfl:d=d':=by omega
      exact (ih (by omega)).2) n h
    exact ⟨hs,fun n nn h1 h2=>l2DrawBlockOfV bs p ((d+1+1:Nat):Int) (SmS (d+1)) (KS (d+1)) (Nat.le_trans (KS_le _ hd) (by decide)) hs n nn h1 h2⟩
theorem drawBlockO (bs vs ar : List Int) (hb : Fits .u8 bs) (hl : bs.length ≤ 2000) (h1 : vs.length ≤ 5) (h2 : ar.length ≤ 2) (n nn : Nat) (hnn : nn ≤ 4) (hn : n + 4 * KS 2 ≤ 549755813888) :
    DC Tryz.prog 97 [.c (.ptr 0 0), .agg [.msl 1 1 0 vs.length, .msl 2 1 0 ar.length, .v (.slice none 0 0)], DI .i64 3, DI .i64 nn] [some (rdr bs n), some (vs.map I64), some (ar.map I64)]
      (fun r h=>∃ l:List St1,r = .c (.isl 11 (St1.cellsL l))∧l.length≤4∧(∀ s ∈ l,SmS 2 s)∧∃ n':Nat,n≤n'∧n'≤n+4 * KS 2∧h=[some (rdr bs n'),some (vs.map I64),some (ar.map I64)]):=by
  have hmx:=mx_eq
  refine DC_imp (DC.lit (h := [some (rdr bs n)]) (hB := [some (vs.map I64), some (ar.map I64)]) (R := fun (r : D) (h : List (Option (List C))) => ∃ l : List St1, r = .c (.isl 11 (St1.cellsL l)) ∧ l.length ≤ 4 ∧ (∀ s ∈ l, SmS 2 s) ∧ rdL bs n (4 * KS 2) h) (lit2 (n := 1) (d0 := .c (.ptr 0 0)) (kx := 1) (ky := 2) (lx := vs.length) (ly := ar.length) (cr := [.v (.slice none 0 0)]) (dr := [DI .i64 3, DI .i64 nn]) rfl rfl rfl)
    (fun args ⟨x,y,hx,hy,e⟩=>by subst e;exact (drawsV bs ⟨x,y,⟨none,0,0⟩⟩ hb hl (by simp only;omega) (by simp only;omega) 2 (by omega)).2 n nn hnn hn) (fun cs hcs c hc=>by simp only [List.mem_singleton,Option.some.injEq] at hcs;subst hcs;exact rdr_kf _ _ c hc) (fun d h' ⟨_,_,_,_,_,_,_,e⟩=>by subst e;rfl)) ?_
  rintro d h' ⟨_,⟨l,rfl,q1,q2,n',q3,q4,rfl⟩,rfl⟩
  exact ⟨l,rfl,q1,q2,n',q3,q4,rfl⟩
theorem progValidO (vs ar : List Int) (bd : List St1) (h1 : vs.length ≤ mx) (h2 : ar.length ≤ mx) (h3 : lsize 5 bd ≤ 1099511627776) :
    DC Tryz.prog 98 [.agg [.msl 0 1 0 vs.length,.msl 1 1 0 ar.length,.isl 11 (St1.cellsL bd)]] [some (vs.map I64),some (ar.map I64)] (fun r h=>r=DB (progOK ⟨vs,ar,bd⟩)∧h=[some (vs.map I64),some (ar.map I64)]) :=
  DC.borrow [0,1] (by simp [DMs,DM,CM,CMs,isI,hpL,Pg.cells,flat_I',kf]) (programValidS ⟨vs,ar,bd⟩ h1 h2 h3)
def prRO (bs:List Int) (n:Nat) (r:D) (h:List (Option (List C))):Prop:=∃ (vs ar:List Int) (bd:List St1),r = .agg [.msl 1 1 0 vs.length,.msl 2 1 0 ar.length,.isl 11 (St1.cellsL bd)]∧DrP ⟨vs,ar,bd⟩∧∃ n':Nat,n≤n'∧n'≤n+1000000∧h=[some (rdr bs n'),some (vs.map I64),some (ar.map I64)]
theorem l2ProgramO (bs:List Int) (n:Nat) (hb:Fits .u8 bs) (hl:bs.length≤2000) (hn:n≤274877906944):DC Tryz.prog 76 [.c (.ptr 0 0)] [some (rdr bs n)] (prRO bs n):=by
  have hmx:=mx_eq
  have hnum:=fun n xs h1 h2 h3=>numO bs n xs hb hl h1 h2 h3
  generalize hR:prRO bs n=R
  refine dcZ Tryz.func76 ?_
  simp only [go_sem,rdr]
  iterate 3 ((try (refine drvZ Tryz.func76 ?_;simp only [go_sem,rdr]));((with_reducible and_intros)<;>try exact sd))
  refine XK.callG [0,321] (hnum n [3,4,2,5] (by omega) (by decide) (by decide)) ok77 (hhp2 rfl rfl) (hbT ()) (fun d h' ⟨_,_,_,e⟩=>by subst e;simp) ?_
  rintro _ _ ⟨nv,rfl,hnv,rfl⟩ _
  obtain ⟨a,rfl,ha5⟩:∃ a:Nat,nv=(a:Int)∧a≤5:=⟨nv.toNat,by simp at hnv;omega,by simp at hnv;omega⟩
  clear hnv
  iterate 1 (try (refine drvZ Tryz.func76 ?_;simp only [go_sem,rdr]))
  refine Go.loopQ (fun x : Nat × List Int => [(0, .c (.ptr 0 0)), (2, .c (.ptr 1 0)), (3, .c (.ptr 66 0)), (4, DI .i64 x.1)])
    (fun x=>[(0,some (rdr bs ((n+1+x.2.length:Nat):Int))),(1,some [.v (.slice none 0 0),.v (.slice none 0 0),.v (.slice none 0 0)]),(66,some [.msl 67 1 0 x.2.length,.v (.slice none 0 0),.v (.slice none 0 0)]),(67,some (x.2.map I64))])
    4096 (fun x=>x.1+x.2.length≤5) (fun x=>x.1) ?_ (a,[]) (fun j=>if j=66 then some 129 else if j=67 then none else some j) [] _ (by simp;omega) ?_
  · rintro ⟨i,vs⟩ hi again
    simp only at hi
    rcases i with _ | i
    · have hip:((0:Int)<0)=False:=eq_false (by omega)
      refine drvL Tryz.func76 ?_
      simp only [go_sem,rdr,hip,Int.natCast_zero]
      iterate 3 ((try (refine drvZ Tryz.func76 ?_;simp only [go_sem,rdr]));((with_reducible and_intros)<;>try exact sd))
      refine XK.callG [0,4288] (hnum (n+1+vs.length) [1,2,0,1] (by omega) (by decide) (by decide)) ok77 (hhp2 rfl rfl) (hbT ()) (fun d h' ⟨_,_,_,e⟩=>by subst e;simp) ?_
      rintro _ _ ⟨nv,rfl,hnv,rfl⟩ _
      obtain ⟨a2,rfl,ha2⟩:∃ a:Nat,nv=(a:Int)∧a≤2:=⟨nv.toNat,by simp at hnv;omega,by simp at hnv;omega⟩
      clear hnv again
      ((try (refine drvZ Tryz.func76 ?_;simp only [go_sem,rdr]));((with_reducible and_intros)<;>try exact sd))
      refine Go.loopQ (fun x : Nat × List Int => [(0, .c (.ptr 0 0)), (2, .c (.ptr 1 0)), (3, .c (.ptr 66 0)), (5, DI .i64 x.1)])
        (fun x=>[(0,some (rdr bs ((n+1+vs.length+1+x.2.length:Nat):Int))),(1,some [.v (.slice none 0 0),.v (.slice none 0 0),.v (.slice none 0 0)]),(66,some [.msl 67 1 0 vs.length,.msl 68 1 0 x.2.length,.v (.slice none 0 0)]),(67,some (vs.map I64)),(68,some (x.2.map I64))])
        8192 (fun x=>x.1+x.2.length≤2) (fun x=>x.1) ?_ (a2,[]) (fun j=>if j=68 then none else some j) [] _ (by simp;omega) ?_
      · rintro ⟨i,ar⟩ hi again
        simp only at hi
        rcases i with _ | i
        · have hip:((0:Int)<0)=False:=eq_false (by omega)
          refine drv_sound (n:=3) (rs:=_) Tryz.func76 mo rfl none _ _ ?_
          simp only [go_sem,rdr]
          refine XK.subQ (r := some) (fz := []) (tl := [(0, .c (.ptr 0 0)), (2, .c (.ptr 1 0)), (3, .c (.ptr 66 0)), (5, DI .i64 0)])
            (hl:=[(0,some (rdr bs ((n+1+vs.length+1+ar.length:Nat):Int))),(1,some [.v (.slice none 0 0),.v (.slice none 0 0),.v (.slice none 0 0)]),(66,some [.msl 67 1 0 vs.length,.msl 68 1 0 ar.length,.v (.slice none 0 0)]),(67,some (vs.map I64)),(68,some (ar.map I64))]) ?_ ?_
          · simp only [go_sem,TmOK,DM,DMs,CM,CMs,forall_eq,exists_eq_left,Mq,HpOK,LowOK,rdr]
            simp [CMs,kf,flat_I',CMs_I]
          iterate 3 ((try (refine drvZ Tryz.func76 ?_;simp only [go_sem,rdr,hip]));((with_reducible and_intros)<;>try exact sd))
          refine XK.callG [0,8512] (hnum (n+1+vs.length+1+ar.length) [2,3,1,4] (by omega) (by decide) (by decide)) ok77 (hhp2 rfl rfl) (hbT ()) (fun d h' ⟨_,_,_,e⟩=>by subst e;simp) ?_ (fun _=>⟨by kernel_rfl,_,_,⟨1,rfl,by simp,rfl⟩,by simp⟩)
          rintro _ _ ⟨nv,rfl,hnv,rfl⟩ _
          obtain ⟨nn,rfl,hnn⟩:∃ a:Nat,nv=(a:Int)∧a≤4:=⟨nv.toNat,by simp at hnv;omega,by simp at hnv;omega⟩
          clear hnv again
          have hvs:vs.length≤5:=by omega
          have har:ar.length≤2:=by omega
          have hdb:=drawBlockO bs vs ar hb hl hvs har (n+1+vs.length+1+ar.length+1) nn hnn (by have:=KS_le 2 (by omega);omega)
          iterate 2 ((try (refine drvZ Tryz.func76 ?_;simp only [go_sem,rdr,hip]));((with_reducible and_intros)<;>try exact sd))
          refine XK.callG [0,67,68] hdb ok97 (hhpG (by simp [HH,upd,hOf,hpL,renCs_I,renCs_rdr,renCs,renC,rk0,rdr])) (hbT ()) (fun d h' ⟨_,_,_,_,_,_,_,e⟩=>by subst e;simp) ?_ (fun _=>⟨by kernel_rfl,_,_,⟨[],rfl,by simp,by simp,n+1+vs.length+1+ar.length+1,by omega,by omega,rfl⟩,by simp⟩)
          rintro _ _ ⟨bd,rfl,hbl,hbs,m,hm1,hm2,rfl⟩ _
          have hKS:KS 2=87600:=rfl
          have hls:=lsize_sm 2 5 bd hbs
          have hpv:=progValidO vs ar bd (by omega) (by omega) (by omega)
          iterate 3 ((try (refine drvZ Tryz.func76 ?_;simp only [go_sem,rdr,hip]));((with_reducible and_intros)<;>try exact sd))
          refine XK.callG [67,68] hpv ok98 (hhpG (by simp [HH,upd,hOf,hpL,renCs_I,renCs,renC,rk0])) (hbT ()) (fun d h' ⟨_,e⟩=>by subst e;simp) ?_
          rintro _ _ ⟨rfl,rfl⟩ _
          cases hq:progOK ⟨vs,ar,bd⟩ with
          | true =>
            iterate 3 ((try (refine drvZ Tryz.func76 ?_;simp only [go_sem,rdr,hq]));((with_reducible and_intros)<;>try exact sd))
            refine RetOb.ofQ (fun j=>if j=0 then some 0 else if j=1 then some 67 else if j=2 then some 68 else none) [] (.agg [.msl 1 1 0 vs.length,.msl 2 1 0 ar.length,.isl 11 (St1.cellsL bd)]) [some (rdr bs m),some (vs.map I64),some (ar.map I64)] ?_ (by rw [← hR];exact ⟨vs,ar,bd,rfl,⟨hq,hvs,har,hbl,hbs⟩,m,by omega,by omega,rfl⟩) (by simp)
            simp [enumL,hOf,DM,DMs,CM,CMs,HpOK,LowOK,upd,rdr,kf,CMs_I,renCs_I]
          | false =>
            iterate 3 ((try (refine drvZ Tryz.func76 ?_;simp only [go_sem,rdr,hq]));((with_reducible and_intros)<;>try exact sd))
            refine RetOb.step some [] (.agg [.msl 8960 1 0 2,.v (.slice none 0 0),.msl 9152 11 0 1]) [(0,some (rdr bs m)),(8960,some [I64 0,I64 1]),(9152,some (stC fixP.body))] ?_ ?_
            · simp [hOf,DM,DMs,CM,CMs,HpOK,LowOK,upd,rdr,stC,fixP,St1.cells,St1.cellsL,Ex.cells,Ex.cellsL,Ex0]
            refine RetOb.ofQ (fun j=>if j=0 then some 0 else if j=1 then some 8960 else none) [9152] (.agg [.msl 1 1 0 2,.msl 2 1 0 0,.isl 11 (St1.cellsL fixP.body)]) [some (rdr bs m),some ([0,1].map I64),some []] ?_ ?_ (by simp)
            · simp [enumL,hOf,DM,DMs,CM,CMs,HpOK,LowOK,upd,rdr,stC,fixP,isI,St1.cells,St1.cellsL,Ex.cells,Ex.cellsL,Ex0,kf]
            · rw [← hR];exact ⟨[0,1],[],fixP.body,rfl,DrP.fix,m,by omega,by omega,rfl⟩
        · have hip:((0:Int)<(i:Int)+1)=True:=eq_true (by omega)
          refine drvL Tryz.func76 ?_
          simp only [go_sem,rdr,hip]
          iterate 3 ((try (refine drvZ Tryz.func76 ?_;simp only [go_sem,rdr]));((with_reducible and_intros)<;>try exact sd))
          refine XK.callG [0,8512] (hnum (n+1+vs.length+1+ar.length) [0,1,0,1,3] (by omega) (by decide) (by decide)) ok77 (hhp2 rfl rfl) (hbT ()) (fun d h' ⟨_,_,_,e⟩=>by subst e;simp) ?_ (fun _=>⟨by kernel_rfl,_,_,⟨0,rfl,by simp,rfl⟩,by simp⟩)
          rintro _ _ ⟨v,rfl,hv,rfl⟩ _
          clear hv
          iterate 4 ((try (refine drvZ Tryz.func76 ?_;simp only [go_sem,rdr]));((with_reducible and_intros)<;>try exact sd))
          refine again (i,ar++[v]) (fun j=>if j=68 then some 8704 else some j) [] _ (by simp;omega) (by simp) ?_
          simp only [go_sem,TmOK,DM,DMs,CM,CMs,forall_eq,exists_eq_left,Mq,HpOK,LowOK,rdr,i_snoc]
          simp [-List.map_append,CMs_I]
          try exact ⟨by omega,CMs.kf (kf_app (kf_I _) (by simp [kf]))⟩
      · simp only [go_sem,TmOK,DM,DMs,CM,CMs,forall_eq,exists_eq_left,Mq,HpOK,LowOK,rdr]
        simp [CMs,kf,flat_I',CMs_I]
    · have hip:((0:Int)<(i:Int)+1)=True:=eq_true (by omega)
      refine drvL Tryz.func76 ?_
      simp only [go_sem,rdr,hip]
      iterate 3 ((try (refine drvZ Tryz.func76 ?_;simp only [go_sem,rdr]));((with_reducible and_intros)<;>try exact sd))
      refine XK.callG [0,4416] (hnum (n+1+vs.length) [0,1,0,1,2,3] (by omega) (by decide) (by decide)) ok77 (hhp2 rfl rfl) (hbT ()) (fun d h' ⟨_,_,_,e⟩=>by subst e;simp) ?_ (fun _=>⟨by kernel_rfl,_,_,⟨0,rfl,by simp,rfl⟩,by simp⟩)
      rintro _ _ ⟨v,rfl,hv,rfl⟩ _
      clear hv
      iterate 4 ((try (refine drvZ Tryz.func76 ?_;simp only [go_sem,rdr]));((with_reducible and_intros)<;>try exact sd))
      refine again (i,vs++[v]) (fun j=>if j=67 then some 4608 else some j) [] _ (by simp;omega) (by simp) ?_
      simp only [go_sem,TmOK,DM,DMs,CM,CMs,forall_eq,exists_eq_left,Mq,HpOK,LowOK,rdr,i_snoc]
      simp
      exact ⟨by omega,CMs.kf (kf_app (kf_I _) (by simp [kf]))⟩
  · simp only [go_sem,TmOK,DM,DMs,CM,CMs,forall_eq,exists_eq_left,Mq,HpOK,LowOK,rdr]
    simp [CMs]
theorem fits_take {k:IntKind} {bs:List Int} (h:Fits k bs) (n:Nat):Fits k (bs.take n):=fun x hx=>h x (List.mem_of_mem_take hx)
theorem prog_len {p:Pg} (h:progOK p=true):1≤p.vars.length∧p.vars.length≤12∧p.arrays.length≤2:=by
  simp only [progOK,headsOK,Bool.and_eq_true,decide_eq_true_eq] at h
  obtain ⟨⟨⟨⟨⟨_,h1⟩,h2⟩,h3⟩,_⟩,_⟩:=h
  omega
end Go.Proofs.YtfkhahkclgejnaaGreatDoor.CtD
namespace Go.Proofs.YtfkhahkclgejnaaGreatDoor.CtR
open Go Go.CT CtF
variable [Yn]
def lab3 (l:List Int):Prop:=∀ x ∈ l,0≤x∧x≤3
theorem RetOb.two {R:D→List (Option (List C))→Prop} {a b:Int} {hp:Hp} (h:R (.tup [DI .i64 a,DI .i64 b]) []):RetOb 0 R (.tup [DI .i64 a,DI .i64 b]) hp :=
  RetOb.ofQ (fun _=>none) [] (.tup [DI .i64 a,DI .i64 b]) [] (by simp [enumL,DM,DMs,CM,HpOK,LowOK]) h (by simp)
abbrev BC (b:Bool):C := .v (.bool b)
def boolsC (bs:List Bool):List C:=bs.map BC
theorem boolsC_kf (bs:List Bool):∀ c ∈ boolsC bs,kf c=true:=by
  intro c hc;obtain ⟨x,_,rfl⟩:=List.mem_map.1 hc;rfl
end Go.Proofs.YtfkhahkclgejnaaGreatDoor.CtR
namespace Go.Proofs.YtfkhahkclgejnaaGreatDoor.CtD
open Go Go.CT CtF CtR
variable [Yn]
def cutS (q : Nat → Bool) (nv : Nat) (f : List St1 → List St1) : St1 → Option St1
  | .mk k t ix v c b e =>
    if k=5 then some (.mk k t ix v c b e) else if k=1 then (if q t.toNat then some (.mk k t ix v c b e) else none) else if k=2 then (if q (nv+t.toNat) then some (.mk k t ix v c b e) else none)
    else if 0<(f b).length+(f e).length then some (.mk k t ix v c (f b) (f e)) else none
end Go.Proofs.YtfkhahkclgejnaaGreatDoor.CtD
namespace Go.Proofs.YtfkhahkclgejnaaGreatDoor.CtR
end Go.Proofs.YtfkhahkclgejnaaGreatDoor.CtR
namespace Go.Proofs.YtfkhahkclgejnaaGreatDoor.CtD
open Go Go.CT CtF CtR
variable [Yn]
end Go.Proofs.YtfkhahkclgejnaaGreatDoor.CtD
namespace Go.Proofs.YtfkhahkclgejnaaGreatDoor.CtF
end Go.Proofs.YtfkhahkclgejnaaGreatDoor.CtF
namespace Go.Proofs.YtfkhahkclgejnaaGreatDoor.CtR
end Go.Proofs.YtfkhahkclgejnaaGreatDoor.CtR
namespace Go.Proofs.YtfkhahkclgejnaaGreatDoor.CtD
open Go Go.CT CtF CtR
variable [Yn]
end Go.Proofs.YtfkhahkclgejnaaGreatDoor.CtD
namespace Go.Proofs.YtfkhahkclgejnaaGreatDoor.CtF
end Go.Proofs.YtfkhahkclgejnaaGreatDoor.CtF
namespace Go.Proofs.YtfkhahkclgejnaaGreatDoor.CtR
end Go.Proofs.YtfkhahkclgejnaaGreatDoor.CtR
namespace Go.Proofs.YtfkhahkclgejnaaGreatDoor.CtD
open Go Go.CT CtF CtR
variable [Yn]
end Go.Proofs.YtfkhahkclgejnaaGreatDoor.CtD
namespace Go.Proofs.YtfkhahkclgejnaaGreatDoor.CtF
end Go.Proofs.YtfkhahkclgejnaaGreatDoor.CtF
namespace Go.Proofs.YtfkhahkclgejnaaGreatDoor.CtR
end Go.Proofs.YtfkhahkclgejnaaGreatDoor.CtR
namespace Go.Proofs.YtfkhahkclgejnaaGreatDoor.CtD
open Go Go.CT CtF CtR
variable [Yn]
end Go.Proofs.YtfkhahkclgejnaaGreatDoor.CtD
namespace Go.Proofs.YtfkhahkclgejnaaGreatDoor.CtF
end Go.Proofs.YtfkhahkclgejnaaGreatDoor.CtF
namespace Go.Proofs.YtfkhahkclgejnaaGreatDoor.CtR
end Go.Proofs.YtfkhahkclgejnaaGreatDoor.CtR
namespace Go.Proofs.YtfkhahkclgejnaaGreatDoor.CtD
open Go Go.CT CtF CtR
variable [Yn]
def rel (l:List Ev):List Ev:=l.filter fun e=>e.kind == 4
theorem len0 {l:List St1} (h:¬ 0<l.length):l=[]:=List.eq_nil_of_length_eq_zero (by omega)
end Go.Proofs.YtfkhahkclgejnaaGreatDoor.CtD
namespace Go.Proofs.YtfkhahkclgejnaaGreatDoor.CtF
variable [Go.CT.Yn]
end Go.Proofs.YtfkhahkclgejnaaGreatDoor.CtF
namespace Go.Proofs.YtfkhahkclgejnaaGreatDoor.CtR
variable [Go.CT.Yn]
open Go Go.CT CtF
def subL (a b:Nat):Bool:=a ||| b == b
open Go Go.CT CtF
open Go Go.CT CtF
end Go.Proofs.YtfkhahkclgejnaaGreatDoor.CtR
namespace Go.Proofs.YtfkhahkclgejnaaGreatDoor.CtF
end Go.Proofs.YtfkhahkclgejnaaGreatDoor.CtF
namespace Go.Proofs.YtfkhahkclgejnaaGreatDoor.CtR
end Go.Proofs.YtfkhahkclgejnaaGreatDoor.CtR
namespace Go.Proofs.YtfkhahkclgejnaaGreatDoor.CtR
open Go Go.CT CtF
variable [Yn]
theorem le3 {a:Nat} (h:a≤3):a=0∨a=1∨a=2∨a=3:=by omega
theorem subI (a b:Nat) (ha:a≤3) (hb:b≤3):decide (((a ||| b:Nat):Int)=(b:Int))=subL a b:=by
  rcases le3 ha with rfl | rfl | rfl | rfl<;>rcases le3 hb with rfl | rfl | rfl | rfl<;>decide
structure Up (l l' : List Int) : Prop where
  len:l'.length=l.length
  lab:lab3 l'
  le:∀ (i:Nat) (x x':Int),l[i]? = some x→l'[i]? = some x'→x≤x'
theorem Up.refl {l:List Int} (h:lab3 l):Up l l:=⟨rfl,h,fun i x x' a b=>by rw [a] at b;cases b;exact Int.le_refl _⟩
theorem Up.trans {a b c:List Int} (h:Up a b) (h':Up b c):Up a c :=
  ⟨h'.len.trans h.len,h'.lab,fun i x x' h1 h2=>by
    have hi:i<b.length:=by have:=(List.getElem?_eq_some_iff.1 h1).1;rw [h.len];exact this
    exact Int.le_trans (h.le i x b[i] h1 (by simp [hi])) (h'.le i b[i] x' (by simp [hi]) h2)⟩
theorem Up.set {l l':List Int} (h:Up l l') {i T n:Nat} (ht:l'[i]? = some (T:Int)) (hn:n≤3) (hT:T≤n):Up l (l'.set i (n:Int)) :=
  ⟨by rw [List.length_set,h.len],fun x hx=>by
    rcases List.mem_or_eq_of_mem_set hx with h1 | rfl
    · exact h.lab x h1
    · omega,fun j x x' h1 h2=>by
    rw [List.getElem?_set] at h2
    by_cases e:i=j
    · subst e
      have hlt:=(List.getElem?_eq_some_iff.1 ht).1
      rw [if_pos rfl,if_pos hlt] at h2
      cases h2
      have:=h.le i x T h1 ht
      omega
    · rw [if_neg e] at h2;exact h.le j x x' h1 h2⟩
end Go.Proofs.YtfkhahkclgejnaaGreatDoor.CtR
namespace Go.Proofs.YtfkhahkclgejnaaGreatDoor.CtD
open Go Go.CT CtF CtR
variable [Yn]
theorem stmtOK_len {p q:Pg} (h1:q.vars.length=p.vars.length) (h2:q.arrays.length=p.arrays.length):∀ (d:Nat) (s:St1),stmtOK q d s=stmtOK p d s:=by
  have hsh:∀ (d:Nat) (e:Ex),CtR.shape q d e=CtR.shape p d e:=by
    have hlim:∀ k,limit q k=limit p k:=fun k=>by simp only [limit,h1,h2]
    intro d
    induction d with
    | zero=>intro e;rfl
    | succ d ih =>
      intro e
      obtain ⟨k,v,ks⟩:=e
      have he:CtR.shape q d=CtR.shape p d:=funext ih
      simp only [CtR.shape,fitsE,hlim,he]
  have hr:∀ e,right q e=right p e:=fun e=>by simp only [right,hsh]
  intro d
  induction d with
  | zero=>intro s;rfl
  | succ d ih =>
    intro s
    obtain ⟨k,t,ix,v,c,b,e⟩:=s
    have h3:∀ l:List St1,l.all (stmtOK q d)=l.all (stmtOK p d):=fun l=>by congr 1;funext s;exact ih s
    simp only [stmtOK,headOK,hr,h1,h2,h3]
theorem DrP.up {p q:Pg} (h:DrP p) (h1:CtR.Up p.vars q.vars) (h2:CtR.Up p.arrays q.arrays) (h3:q.body=p.body):DrP q:=by
  refine ⟨?_,by rw [h1.len];exact h.nv,by rw [h2.len];exact h.na,by rw [h3];exact h.nb,by rw [h3];exact h.sm⟩
  have hok:=h.ok
  simp only [progOK,headsOK,Bool.and_eq_true,decide_eq_true_eq] at hok ⊢
  have hst:(stmtOK q 5)=stmtOK p 5:=funext fun s=>stmtOK_len h1.len h2.len 5 s
  refine ⟨⟨?_,by rw [h3,hst];exact hok.1.2⟩,by rw [h3];exact hok.2⟩
  have hl:∀ l:List Int,lab3 l→labs l=true:=fun l hl=>by
    simp only [labs,List.all_eq_true,Bool.and_eq_true,decide_eq_true_eq]
    exact hl
  obtain ⟨⟨⟨⟨g1,g2⟩,g3⟩,g4⟩,g5⟩:=hok.1.1
  rw [h1.len,h2.len]
  exact ⟨⟨⟨⟨g1,g2⟩,g3⟩,hl _ h1.lab⟩,hl _ h2.lab⟩
end Go.Proofs.YtfkhahkclgejnaaGreatDoor.CtD
namespace Go.Proofs.YtfkhahkclgejnaaGreatDoor.CtR
variable [Go.CT.Yn]
open Go Go.CT CtF
open Go Go.CT CtF
end Go.Proofs.YtfkhahkclgejnaaGreatDoor.CtR
namespace Go.Proofs.YtfkhahkclgejnaaGreatDoor.CtD
open Go Go.CT CtF CtR
variable [Yn]
def bl (n N:Nat):List Bool:=(List.range n).map fun i=>N.testBit i
def rowsB (w:Nat) (S:List Nat):List (List C):=S.map fun N=>boolsC (bl w N)
theorem rowsB_len (w:Nat) (S:List Nat):(rowsB w S).length=S.length:=by simp [rowsB]
theorem rowsB_kf (w:Nat) (S:List Nat):∀ x ∈ rowsB w S,∀ c ∈ x,kf c=true:=fun x hx c hc=>by
  obtain ⟨N,_,rfl⟩:=List.mem_map.1 hx;exact boolsC_kf _ c hc
theorem fam_row {hp:Hp} {b w i:Nat} {S:List Nat} {row:List C} (hS:S.length≤32) (h:(rowsB w S)[i]? = some row):fam hp b (rowsB w S) (b+i)=some (some row):=by
  have:=(List.getElem?_eq_some_iff.1 h).1
  rw [rowsB_len] at this
  rw [fam_at (by omega),h];rfl
theorem SubH.rows {m : Nat} {r : Nat → Option Nat} {hl : List (Nat × Option (List C))} {hp : Hp} {b b' w : Nat} {S : List Nat} (hS : S.length ≤ 32) (hr : ∀ i, i < S.length → r (b + i) = some (b' + i))
    (hok:HpOK (fam (hOf hl) b (rowsB w S)) r (fam hp b' (rowsB w S)) [] hl) (hlow:LowOK r (fam (hOf hl) b (rowsB w S)) m) (hnd:((hl.filterMap fun p=>p.2.map fun _=>p.1).filterMap r).Nodup)
    (hdis:∀ p ∈ hl,∀ j,r p.1=some j→j<b'∨b' + 32≤j):SubH m r [] (fam (hOf hl) b (rowsB w S)) (fam hp b' (rowsB w S)):=by
  have hl0:=rowsB_len w S
  refine SubH.fam (fun n=>b' + n) (fun i hi=>hr i (by omega)) (fun i j hi hj h=>by omega) (fun i hi=>by simp) (fun i row hi=>fam_row hS hi) (rowsB_kf w S) hok hlow hnd ?_
  intro k j cs hm hj i hi e
  have:=hdis _ hm j hj
  omega
end Go.Proofs.YtfkhahkclgejnaaGreatDoor.CtD
namespace Go.Proofs.YtfkhahkclgejnaaGreatDoor.CtR
variable [Go.CT.Yn]
open Go Go.CT CtF
end Go.Proofs.YtfkhahkclgejnaaGreatDoor.CtR
namespace Go.Proofs.YtfkhahkclgejnaaGreatDoor.CtL
variable [Go.CT.Yn]
open Go Go.CT CtF CtR
open CtD (rel)
def e0:Ex := .mk 0 0 []
open Go Go.CT CtF CtR
open CtD (rel)
open Go Go.CT CtF CtR
open CtD (rel)
open Go Go.CT CtF CtR
open CtD (rel)
def Ext (p:Pg) (vs:List Int):Prop:=∃ w,vs=p.vars++w
theorem Ext.more {p:Pg} {vs ws:List Int} (h:Ext p vs) (h2:∃ w,ws=vs++w):Ext p ws:=by
  obtain ⟨a,rfl⟩:=h
  obtain ⟨b,rfl⟩:=h2
  exact ⟨a++b,by simp⟩
theorem Ext.le {p:Pg} {vs:List Int} (h:Ext p vs):p.vars.length≤vs.length:=by
  obtain ⟨a,rfl⟩:=h
  simp
open Go Go.CT CtF CtR
open CtD (rel)
open Go Go.CT CtF CtR
open CtD (rel)
def Sub (a b:Nat):Prop:=∀ β,a.testBit β=true→b.testBit β=true
theorem Sub.refl (a:Nat):Sub a a:=fun _ h=>h
theorem Sub.trans {a b c:Nat} (h:Sub a b) (g:Sub b c):Sub a c:=fun β x=>g β (h β x)
theorem Sub.zero (a:Nat):Sub 0 a:=fun β h=>by simp at h
theorem Sub.or {a b c:Nat}:Sub (a ||| b) c ↔ Sub a c∧Sub b c:=by
  constructor
  · exact fun h=>⟨fun β x=>h β (by simp [x]),fun β x=>h β (by simp [x])⟩
  · rintro ⟨h1,h2⟩ β x
    rw [Nat.testBit_or,Bool.or_eq_true] at x
    exact x.elim (h1 β) (h2 β)
theorem Sub.left (a b:Nat):Sub a (a ||| b):=fun β h=>by simp [h]
theorem Sub.right (a b:Nat):Sub b (a ||| b):=fun β h=>by simp [h]
theorem Sub.l {a b c:Nat} (h:Sub a b):Sub a (b ||| c):=h.trans (Sub.left _ _)
theorem Sub.r {a b c:Nat} (h:Sub a c):Sub a (b ||| c):=h.trans (Sub.right _ _)
end Go.Proofs.YtfkhahkclgejnaaGreatDoor.CtL
