/- Contracts of functions of the program, one behind the other, as plain data: what each call returns and which blocks it leaves. -/
import Derived.Test.YtbknljofedfpjaaGreatXFacts
import Derived.Test.YtbknljofedfpjaaGreatXAi
import Derived.Test.YtbknljofedfpjaaGreatXAk
import Derived.Test.YtbknljofedfpjaaGreatXAo
import Derived.Test.YtbknljofedfpjaaGreatXAl
import Derived.Test.YtbknljofedfpjaaGreatXAm
import Derived.Test.YtbknljofedfpjaaGreatXAn
set_option linter.unusedVariables false
set_option linter.unusedSimpArgs false
set_option linter.unusedSectionVars false
set_option maxHeartbeats 16000000
set_option maxRecDepth 100000
namespace Go.Proofs.YtbknljofedfpjaaGreat.CtD
open Go Go.CT CtF CtR
variable [Yn]
def KS : Nat → Nat
  | 0=>1200
  | d+1=>1200+8 * KS d
theorem KS_ge : ∀ d, 1200 ≤ KS d
  | 0=>Nat.le_refl _
  | d+1=>by simp only [KS];omega
theorem KS_le : ∀ d, d ≤ 3 → KS d ≤ 1000000
  | 0,_=>by decide
  | 1,_=>by decide
  | 2,_=>by decide
  | 3,_=>by decide
def Ex0:Ex := .mk 0 0 []
theorem SmE0:SmE Ex0 := .mk 0 0 [] (by simp) (fun x h=>by simp at h)
theorem SmS.leaf {d:Nat} {k t c:Int} {ix v:Ex} (h1:SmE ix) (h2:SmE v):SmS d (.mk k t ix v c [] []):=by
  cases d<;>simp [SmS,h1,h2]
def stR (bs:List Int) (n d:Nat) (r:D) (h:List (Option (List C))):Prop:=∃ s:St1,r = .agg s.cells∧SmS d s∧rdL bs n (KS d) h
theorem l2DrawStmtOf (bs : List Int) (p : Pg) (hb : Fits .u8 bs) (hl : bs.length ≤ 2000) (hp : p.vars.length ≤ mx) (hp2 : p.arrays.length ≤ mx) (d : Nat) (hd : d ≤ 3)
    (ih : ∀ d', d = d' + 1 → ∀ (n nn : Nat), nn ≤ 4 → n + 4 * KS d' ≤ 549755813888 → DC Tryz.prog 85 [.c (.ptr 0 0), .agg p.cells, DI .i64 (d' + 1 : Nat), DI .i64 nn] [some (rdr bs n)]
      (fun r h=>∃ l:List St1,r = .c (.isl 11 (St1.cellsL l))∧l.length≤4∧(∀ s ∈ l,SmS d' s)∧rdL bs n (4 * KS d') h))
    (n:Nat) (hn:n+KS d≤549755813888):DC Tryz.prog 128 [.c (.ptr 0 0),.agg p.cells,DI .i64 (d+1:Nat)] [some (rdr bs n)] (stR bs n d):=by
  have hmx:=mx_eq
  have hat:=fun n h=>l2DrawAtom bs n p hb hl h hp
  have hsm:=fun n h=>l2Small bs n p hb hl hp hp2 h
  have hKS:=KS_ge d
  have hKS2:=KS_le d hd
  generalize hR:stR bs n d=R
  obtain ⟨vs,ar,bd⟩:=p
  have hp:vs.length≤mx:=hp
  have hp2:ar.length≤mx:=hp2
  refine dcZ Tryz.func128 ?_
  simp only [go_sem,rdr]
  (with_reducible and_intros)<;>try exact sd
  refine XK.callG [0,193] (numO bs n [1,1,2,3,4,1,3,5] hb hl (by omega) (by decide) (by decide)) ok73 (hhp2 rfl rfl) (hbT ()) (fun d h' ⟨_,_,_,e⟩=>by subst e;simp) ?_
  rintro _ _ ⟨kv,rfl,hkv,rfl⟩ _
  simp only [List.mem_cons,List.not_mem_nil,or_false] at hkv
  have hk:kv=2∧0<ar.length∨kv=3∧0<d∨kv=4∧0<d∨(kv=1∨kv=5∨kv=2∧ar.length=0∨kv=3∧d=0∨kv=4∧d=0):=by omega
  clear hkv
  rcases hk with ⟨rfl,hal⟩ | ⟨rfl,hdl⟩ | ⟨rfl,hdl⟩ | hk
  · have e1:((0:Int)<(ar.length:Int))=True:=eq_true (by omega)
    iterate 5 (try (refine drvZ Tryz.func128 ?_;simp only [go_sem,rdr,e1]))
    refine XK.callG [0] (pick bs (n+1) ar.length hb hl (by omega) (by simp only [InK];omega)) ok71 (hhp_one rfl) (hbT ()) (fun d h' ⟨v,_,_,e⟩=>by subst e;simp) ?_
    rintro _ _ ⟨v1,rfl,hv1,rfl⟩ _
    iterate 2 (try (refine drvZ Tryz.func128 ?_;simp only [go_sem,rdr]))
    refine XK.callG [0] (hat (n+2) (by omega)) ok156 (hhp_one rfl) (hbT ()) (fun d h' ⟨_,_,_,_,_,_,e⟩=>by subst e;simp) ?_
    rintro _ _ ⟨⟨k1,w1,ks1⟩,rfl,he1,n1,hn1,hm1,rfl⟩ _
    iterate 2 (try (refine drvZ Tryz.func128 ?_;simp only [go_sem,rdr]))
    refine XK.callG [0] (hsm n1 (by omega)) ok157 (hhp_one rfl) (hbT ()) (fun d h' ⟨_,_,_,_,_,_,e⟩=>by subst e;simp) ?_
    rintro _ _ ⟨⟨k2,w2,ks2⟩,rfl,he2,n2,hn2,hm2,rfl⟩ _
    iterate 2 (try (refine drvZ Tryz.func128 ?_;simp only [go_sem,rdr]))
    refine RetOb.ofQ (fun j=>if j=0 then some 0 else none) [] (.agg (St1.cells (.mk 2 v1 (.mk k1 w1 ks1) (.mk k2 w2 ks2) 0 [] []))) [some (rdr bs n2)] ?_ ?_ (by simp)
    · simp [enumL,hOf,DM,DMs,CM,CMs,HpOK,LowOK,upd,Ex.cells,Ex.cellsL,St1.cells,St1.cellsL,rdr,kf]
    · rw [← hR];exact ⟨.mk 2 v1 (.mk k1 w1 ks1) (.mk k2 w2 ks2) 0 [] [],rfl,SmS.leaf (SmE.atom he1) he2,n2,by omega,by omega,rfl⟩
  · obtain ⟨d',rfl⟩:∃ d',d=d' + 1:=⟨d - 1,by omega⟩
    have hKK:KS (d' + 1)=1200+8 * KS d':=rfl
    have e1:((1:Int)<((d':Int)+1+1))=True:=eq_true (by omega)
    iterate 5 (try (refine drvZ Tryz.func128 ?_;simp only [go_sem,rdr,e1]))
    refine XK.callG [0] (hsm (n+1) (by omega)) ok157 (hhp_one rfl) (hbT ()) (fun d h' ⟨_,_,_,_,_,_,e⟩=>by subst e;simp) ?_
    rintro _ _ ⟨⟨k2,w2,ks2⟩,rfl,he2,n2,hn2,hm2,rfl⟩ _
    iterate 2 (try (refine drvZ Tryz.func128 ?_;simp only [go_sem,rdr]))
    (with_reducible and_intros)<;>try exact sd
    refine XK.callG [0,2305] (numO bs n2 [1,2,1,0] hb hl (by omega) (by decide) (by decide)) ok73 (hhp2 rfl rfl) (hbT ()) (fun d h' ⟨_,_,_,e⟩=>by subst e;simp) ?_ (fun _=>⟨by kernel_rfl,_,_,⟨1,rfl,by simp,rfl⟩,by simp⟩)
    rintro _ _ ⟨nv,rfl,hnv,rfl⟩ _
    iterate 2 (try (refine drvZ Tryz.func128 ?_;simp only [go_sem,rdr]))
    (with_reducible and_intros)<;>try exact sd
    obtain ⟨nn1,rfl,hnn1⟩:∃ a:Nat,nv=(a:Int)∧a≤4:=⟨nv.toNat,by simp at hnv;omega,by simp at hnv;omega⟩
    refine XK.callG [0] (ih d' rfl (n2+1) nn1 hnn1 (by omega)) ok85 (hhp_one rfl) (hbT ()) (fun d h' ⟨_,_,_,_,_,_,_,e⟩=>by subst e;simp) ?_ (fun _=>⟨by kernel_rfl,_,_,⟨[],rfl,by simp,by simp,(n2+1),by omega,by omega,rfl⟩,by simp⟩)
    rintro _ _ ⟨l1,rfl,hl1,hs1,m1,hp1,hq1,rfl⟩ _
    iterate 3 (try (refine drvZ Tryz.func128 ?_;simp only [go_sem,rdr]))
    (with_reducible and_intros)<;>try exact sd
    refine XK.callG [0,2945] (numO bs m1 [0,1,0,2] hb hl (by omega) (by decide) (by decide)) ok73 (hhp2 rfl rfl) (hbT ()) (fun d h' ⟨_,_,_,e⟩=>by subst e;simp) ?_ (fun _=>⟨by kernel_rfl,_,_,⟨1,rfl,by simp,rfl⟩,by simp⟩)
    rintro _ _ ⟨nv,rfl,hnv,rfl⟩ _
    iterate 2 (try (refine drvZ Tryz.func128 ?_;simp only [go_sem,rdr]))
    (with_reducible and_intros)<;>try exact sd
    obtain ⟨nn3,rfl,hnn3⟩:∃ a:Nat,nv=(a:Int)∧a≤4:=⟨nv.toNat,by simp at hnv;omega,by simp at hnv;omega⟩
    refine XK.callG [0] (ih d' rfl (m1+1) nn3 hnn3 (by omega)) ok85 (hhp_one rfl) (hbT ()) (fun d h' ⟨_,_,_,_,_,_,_,e⟩=>by subst e;simp) ?_ (fun _=>⟨by kernel_rfl,_,_,⟨[],rfl,by simp,by simp,(m1+1),by omega,by omega,rfl⟩,by simp⟩)
    rintro _ _ ⟨l3,rfl,hl3,hs3,m3,hp3,hq3,rfl⟩ _
    iterate 3 (try (refine drvZ Tryz.func128 ?_;simp only [go_sem,rdr]))
    (with_reducible and_intros)<;>try exact sd
    refine RetOb.ofQ (fun j=>if j=0 then some 0 else none) [] (.agg (St1.cells (.mk 3 0 Ex0 (.mk k2 w2 ks2) 0 l1 l3))) [some (rdr bs m3)] ?_ ?_ (by simp)
    · simp [enumL,hOf,DM,DMs,CM,CMs,HpOK,LowOK,upd,Ex.cells,Ex.cellsL,St1.cells,St1.cellsL,Ex0,rdr,kf]
    · rw [← hR];exact ⟨.mk 3 0 Ex0 (.mk k2 w2 ks2) 0 l1 l3,rfl,⟨SmE0,he2,hl1,hl3,hs1,hs3⟩,m3,by omega,by omega,rfl⟩
  · obtain ⟨d',rfl⟩:∃ d',d=d' + 1:=⟨d - 1,by omega⟩
    have hKK:KS (d' + 1)=1200+8 * KS d':=rfl
    have e1:((1:Int)<((d':Int)+1+1))=True:=eq_true (by omega)
    iterate 9 (try (refine drvZ Tryz.func128 ?_;simp only [go_sem,rdr,e1]))
    (with_reducible and_intros)<;>try exact sd
    refine XK.callG [0,2177] (numO bs (n+1) [2,1,3] hb hl (by omega) (by decide) (by decide)) ok73 (hhp2 rfl rfl) (hbT ()) (fun d h' ⟨_,_,_,e⟩=>by subst e;simp) ?_ (fun _=>⟨by kernel_rfl,_,_,⟨1,rfl,by simp,rfl⟩,by simp⟩)
    rintro _ _ ⟨cv,rfl,hcv,rfl⟩ _
    iterate 3 (try (refine drvZ Tryz.func128 ?_;simp only [go_sem,rdr]))
    (with_reducible and_intros)<;>try exact sd
    refine XK.callG [0,2753] (numO bs (n+2) [1,2,1] hb hl (by omega) (by decide) (by decide)) ok73 (hhp2 rfl rfl) (hbT ()) (fun d h' ⟨_,_,_,e⟩=>by subst e;simp) ?_ (fun _=>⟨by kernel_rfl,_,_,⟨1,rfl,by simp,rfl⟩,by simp⟩)
    rintro _ _ ⟨nv,rfl,hnv,rfl⟩ _
    iterate 2 (try (refine drvZ Tryz.func128 ?_;simp only [go_sem,rdr]))
    (with_reducible and_intros)<;>try exact sd
    obtain ⟨nn1,rfl,hnn1⟩:∃ a:Nat,nv=(a:Int)∧a≤4:=⟨nv.toNat,by simp at hnv;omega,by simp at hnv;omega⟩
    refine XK.callG [0] (ih d' rfl (n+3) nn1 hnn1 (by omega)) ok85 (hhp_one rfl) (hbT ()) (fun d h' ⟨_,_,_,_,_,_,_,e⟩=>by subst e;simp) ?_ (fun _=>⟨by kernel_rfl,_,_,⟨[],rfl,by simp,by simp,(n+3),by omega,by omega,rfl⟩,by simp⟩)
    rintro _ _ ⟨l1,rfl,hl1,hs1,m1,hp1,hq1,rfl⟩ _
    iterate 3 (try (refine drvZ Tryz.func128 ?_;simp only [go_sem,rdr]))
    (with_reducible and_intros)<;>try exact sd
    refine RetOb.ofQ (fun j=>if j=0 then some 0 else none) [] (.agg (St1.cells (.mk 4 0 Ex0 Ex0 cv l1 []))) [some (rdr bs m1)] ?_ ?_ (by simp)
    · simp [enumL,hOf,DM,DMs,CM,CMs,HpOK,LowOK,upd,Ex.cells,Ex.cellsL,St1.cells,St1.cellsL,Ex0,rdr,kf]
    · rw [← hR];exact ⟨.mk 4 0 Ex0 Ex0 cv l1 [],rfl,⟨SmE0,SmE0,hl1,by simp,hs1,by simp⟩,m1,by omega,by omega,rfl⟩
  · rcases hk with rfl | rfl | ⟨rfl,ha0⟩ | ⟨rfl,rfl⟩ | ⟨rfl,rfl⟩
    · skip
      iterate 10 (try (refine drvZ Tryz.func128 ?_;simp only [go_sem,rdr]))
      refine XK.callG [0] (pick bs (n+1) vs.length hb hl (by omega) (by simp only [InK];omega)) ok71 (hhp_one rfl) (hbT ()) (fun d h' ⟨v,_,_,e⟩=>by subst e;simp) ?_
      rintro _ _ ⟨v1,rfl,hv1,rfl⟩ _
      iterate 2 (try (refine drvZ Tryz.func128 ?_;simp only [go_sem,rdr]))
      refine XK.callG [0] (hsm (n+2) (by omega)) ok157 (hhp_one rfl) (hbT ()) (fun d h' ⟨_,_,_,_,_,_,e⟩=>by subst e;simp) ?_
      rintro _ _ ⟨⟨k2,w2,ks2⟩,rfl,he2,n2,hn2,hm2,rfl⟩ _
      iterate 2 (try (refine drvZ Tryz.func128 ?_;simp only [go_sem,rdr]))
      refine RetOb.ofQ (fun j=>if j=0 then some 0 else none) [] (.agg (St1.cells (.mk 1 v1 Ex0 (.mk k2 w2 ks2) 0 [] []))) [some (rdr bs n2)] ?_ ?_ (by simp)
      · simp [enumL,hOf,DM,DMs,CM,CMs,HpOK,LowOK,upd,Ex.cells,Ex.cellsL,St1.cells,St1.cellsL,Ex0,rdr,kf]
      · rw [← hR];exact ⟨.mk 1 v1 Ex0 (.mk k2 w2 ks2) 0 [] [],rfl,SmS.leaf SmE0 he2,n2,by omega,by omega,rfl⟩
    · skip
      iterate 10 (try (refine drvZ Tryz.func128 ?_;simp only [go_sem,rdr]))
      refine XK.callG [0] (pick bs (n+1) vs.length hb hl (by omega) (by simp only [InK];omega)) ok71 (hhp_one rfl) (hbT ()) (fun d h' ⟨v,_,_,e⟩=>by subst e;simp) ?_
      rintro _ _ ⟨v1,rfl,hv1,rfl⟩ _
      iterate 2 (try (refine drvZ Tryz.func128 ?_;simp only [go_sem,rdr]))
      refine XK.callG [0] (hsm (n+2) (by omega)) ok157 (hhp_one rfl) (hbT ()) (fun d h' ⟨_,_,_,_,_,_,e⟩=>by subst e;simp) ?_
      rintro _ _ ⟨⟨k2,w2,ks2⟩,rfl,he2,n2,hn2,hm2,rfl⟩ _
      iterate 2 (try (refine drvZ Tryz.func128 ?_;simp only [go_sem,rdr]))
      refine RetOb.ofQ (fun j=>if j=0 then some 0 else none) [] (.agg (St1.cells (.mk 5 v1 Ex0 (.mk k2 w2 ks2) 0 [] []))) [some (rdr bs n2)] ?_ ?_ (by simp)
      · simp [enumL,hOf,DM,DMs,CM,CMs,HpOK,LowOK,upd,Ex.cells,Ex.cellsL,St1.cells,St1.cellsL,Ex0,rdr,kf]
      · rw [← hR];exact ⟨.mk 5 v1 Ex0 (.mk k2 w2 ks2) 0 [] [],rfl,SmS.leaf SmE0 he2,n2,by omega,by omega,rfl⟩
    · skip
      have e1:((0:Int)<(ar.length:Int))=False:=eq_false (by omega)
      iterate 10 (try (refine drvZ Tryz.func128 ?_;simp only [go_sem,rdr,e1]))
      refine XK.callG [0] (pick bs (n+1) vs.length hb hl (by omega) (by simp only [InK];omega)) ok71 (hhp_one rfl) (hbT ()) (fun d h' ⟨v,_,_,e⟩=>by subst e;simp) ?_
      rintro _ _ ⟨v1,rfl,hv1,rfl⟩ _
      iterate 2 (try (refine drvZ Tryz.func128 ?_;simp only [go_sem,rdr]))
      refine XK.callG [0] (hsm (n+2) (by omega)) ok157 (hhp_one rfl) (hbT ()) (fun d h' ⟨_,_,_,_,_,_,e⟩=>by subst e;simp) ?_
      rintro _ _ ⟨⟨k2,w2,ks2⟩,rfl,he2,n2,hn2,hm2,rfl⟩ _
      iterate 2 (try (refine drvZ Tryz.func128 ?_;simp only [go_sem,rdr]))
      refine RetOb.ofQ (fun j=>if j=0 then some 0 else none) [] (.agg (St1.cells (.mk 1 v1 Ex0 (.mk k2 w2 ks2) 0 [] []))) [some (rdr bs n2)] ?_ ?_ (by simp)
      · simp [enumL,hOf,DM,DMs,CM,CMs,HpOK,LowOK,upd,Ex.cells,Ex.cellsL,St1.cells,St1.cellsL,Ex0,rdr,kf]
      · rw [← hR];exact ⟨.mk 1 v1 Ex0 (.mk k2 w2 ks2) 0 [] [],rfl,SmS.leaf SmE0 he2,n2,by omega,by omega,rfl⟩
    · simp only [Int.natCast_zero]
      have e1:((1:Int)<((0:Int)+1))=False:=eq_false (by omega)
      iterate 10 (try (refine drvZ Tryz.func128 ?_;simp only [go_sem,rdr,e1]))
      refine XK.callG [0] (pick bs (n+1) vs.length hb hl (by omega) (by simp only [InK];omega)) ok71 (hhp_one rfl) (hbT ()) (fun d h' ⟨v,_,_,e⟩=>by subst e;simp) ?_
      rintro _ _ ⟨v1,rfl,hv1,rfl⟩ _
      iterate 2 (try (refine drvZ Tryz.func128 ?_;simp only [go_sem,rdr]))
      refine XK.callG [0] (hsm (n+2) (by omega)) ok157 (hhp_one rfl) (hbT ()) (fun d h' ⟨_,_,_,_,_,_,e⟩=>by subst e;simp) ?_
      rintro _ _ ⟨⟨k2,w2,ks2⟩,rfl,he2,n2,hn2,hm2,rfl⟩ _
      iterate 2 (try (refine drvZ Tryz.func128 ?_;simp only [go_sem,rdr]))
      refine RetOb.ofQ (fun j=>if j=0 then some 0 else none) [] (.agg (St1.cells (.mk 1 v1 Ex0 (.mk k2 w2 ks2) 0 [] []))) [some (rdr bs n2)] ?_ ?_ (by simp)
      · simp [enumL,hOf,DM,DMs,CM,CMs,HpOK,LowOK,upd,Ex.cells,Ex.cellsL,St1.cells,St1.cellsL,Ex0,rdr,kf]
      · rw [← hR];exact ⟨.mk 1 v1 Ex0 (.mk k2 w2 ks2) 0 [] [],rfl,SmS.leaf SmE0 he2,n2,by omega,by omega,rfl⟩
    · simp only [Int.natCast_zero]
      have e1:((1:Int)<((0:Int)+1))=False:=eq_false (by omega)
      iterate 10 (try (refine drvZ Tryz.func128 ?_;simp only [go_sem,rdr,e1]))
      refine XK.callG [0] (pick bs (n+1) vs.length hb hl (by omega) (by simp only [InK];omega)) ok71 (hhp_one rfl) (hbT ()) (fun d h' ⟨v,_,_,e⟩=>by subst e;simp) ?_
      rintro _ _ ⟨v1,rfl,hv1,rfl⟩ _
      iterate 2 (try (refine drvZ Tryz.func128 ?_;simp only [go_sem,rdr]))
      refine XK.callG [0] (hsm (n+2) (by omega)) ok157 (hhp_one rfl) (hbT ()) (fun d h' ⟨_,_,_,_,_,_,e⟩=>by subst e;simp) ?_
      rintro _ _ ⟨⟨k2,w2,ks2⟩,rfl,he2,n2,hn2,hm2,rfl⟩ _
      iterate 2 (try (refine drvZ Tryz.func128 ?_;simp only [go_sem,rdr]))
      refine RetOb.ofQ (fun j=>if j=0 then some 0 else none) [] (.agg (St1.cells (.mk 1 v1 Ex0 (.mk k2 w2 ks2) 0 [] []))) [some (rdr bs n2)] ?_ ?_ (by simp)
      · simp [enumL,hOf,DM,DMs,CM,CMs,HpOK,LowOK,upd,Ex.cells,Ex.cellsL,St1.cells,St1.cellsL,Ex0,rdr,kf]
      · rw [← hR];exact ⟨.mk 1 v1 Ex0 (.mk k2 w2 ks2) 0 [] [],rfl,SmS.leaf SmE0 he2,n2,by omega,by omega,rfl⟩
theorem draws (bs:List Int) (p:Pg) (hb:Fits .u8 bs) (hl:bs.length≤2000) (hp:p.vars.length≤mx) (hp2:p.arrays.length≤mx):∀ (d:Nat),d≤3 →
    (∀ n:Nat,n+KS d≤549755813888→DC Tryz.prog 128 [.c (.ptr 0 0),.agg p.cells,DI .i64 (d+1:Nat)] [some (rdr bs n)] (stR bs n d)) ∧
    (∀ (n nn : Nat), nn ≤ 4 → n + 4 * KS d ≤ 549755813888 → DC Tryz.prog 85 [.c (.ptr 0 0), .agg p.cells, DI .i64 (d + 1 : Nat), DI .i64 nn] [some (rdr bs n)]
      (fun r h=>∃ l:List St1,r = .c (.isl 11 (St1.cellsL l))∧l.length≤4∧(∀ s ∈ l,SmS d s)∧rdL bs n (4 * KS d) h)):=by
  intro d
  induction d with
  | zero =>
    intro hd
    have hs:=fun n h=>l2DrawStmtOf bs p hb hl hp hp2 0 hd (fun d' e=>by omega) n h
    exact ⟨hs,fun n nn h1 h2=>l2DrawBlockOf bs p ((0+1:Nat):Int) (SmS 0) (KS 0) (by decide) hs n nn h1 h2⟩
  | succ d ih =>
    intro hd
    have hs:=fun n h=>l2DrawStmtOf bs p hb hl hp hp2 (d+1) hd (fun d' e=>by
      obtain rfl:d=d':=by omega
      exact (ih (by omega)).2) n h
    exact ⟨hs,fun n nn h1 h2=>l2DrawBlockOf bs p ((d+1+1:Nat):Int) (SmS (d+1)) (KS (d+1)) (Nat.le_trans (KS_le _ hd) (by decide)) hs n nn h1 h2⟩
theorem tsize_sm : ∀ (d k : Nat) (s : St1), SmS d s → tsize k s ≤ 9 ^ d
  | d,0,.mk _ _ _ _ _ b e,_=>Nat.zero_le _
  | 0,k+1,.mk _ _ ix v _ b e,h=>by
    simp only [SmS] at h
    obtain ⟨_,_,rfl,rfl⟩:=h
    simp [tsize]
  | d+1,k+1,.mk kk tt ix v cc b e,h=>by
    simp only [SmS] at h
    obtain ⟨_,_,h1,h2,h3,h4⟩:=h
    have hsum:∀ l:List St1,(∀ x ∈ l,SmS d x)→(l.map (tsize k)).sum≤l.length * 9 ^ d:=fun l hl=>by
      induction l with
      | nil=>simp
      | cons a r ih =>
        have:=tsize_sm d k a (hl a (by simp))
        have:=ih fun x hx=>hl x (by simp [hx])
        simp only [List.map_cons,List.sum_cons,List.length_cons,Nat.add_mul]
        omega
    have g1:=hsum b h3
    have g2:=hsum e h4
    have g3:b.length * 9 ^ d≤4 * 9 ^ d:=Nat.mul_le_mul_right _ h1
    have g4:e.length * 9 ^ d≤4 * 9 ^ d:=Nat.mul_le_mul_right _ h2
    have g5:0<9 ^ d:=Nat.pow_pos (by decide)
    have e1:tsize (k+1) (.mk kk tt ix v cc b e)=1+(b.map (tsize k)).sum+(e.map (tsize k)).sum:=rfl
    rw [e1,Nat.pow_succ]
    omega
theorem lsize_sm (d k:Nat) (l:List St1) (h:∀ s ∈ l,SmS d s):lsize k l≤l.length * 9 ^ d:=by
  unfold lsize
  induction l with
  | nil=>simp
  | cons a r ih =>
    have:=tsize_sm d k a (h a (by simp))
    have:=ih fun x hx=>h x (by simp [hx])
    simp only [List.map_cons,List.sum_cons,List.length_cons,Nat.add_mul]
    omega
def fixP:Pg:=⟨[0,1],[],[.mk 1 1 Ex0 (.mk 2 0 []) 0 [] []]⟩
structure DrP (p : Pg) : Prop where
  ok:progOK p=true
  nv:p.vars.length≤5
  na:p.arrays.length≤2
  nb:p.body.length≤4
  sm:∀ s ∈ p.body,SmS 2 s
theorem DrP.fix:DrP fixP:=⟨by decide,by decide,by decide,by decide,fun s hs=>by
  simp only [fixP,List.mem_singleton] at hs
  subst hs
  exact SmS.leaf SmE0 (.mk 2 0 [] (by simp) (fun x h=>by simp at h))⟩
def prR (bs:List Int) (n:Nat) (r:D) (h:List (Option (List C))):Prop:=∃ p:Pg,r = .agg p.cells∧DrP p∧rdL bs n 1000000 h
theorem i_snoc (l:List Int) (x:Int):(l++[x]).map I64=l.map I64++[I64 x]:=by simp
theorem l2Program (bs:List Int) (n:Nat) (hb:Fits .u8 bs) (hl:bs.length≤2000) (hn:n≤274877906944):DC Tryz.prog 29 [.c (.ptr 0 0)] [some (rdr bs n)] (prR bs n):=by
  have hmx:=mx_eq
  have hnum:=fun n xs h1 h2 h3=>numO bs n xs hb hl h1 h2 h3
  generalize hR:prR bs n=R
  refine dcZ Tryz.func29 ?_
  simp only [go_sem,rdr]
  iterate 3 ((try (refine drvZ Tryz.func29 ?_;simp only [go_sem,rdr]));((with_reducible and_intros)<;>try exact sd))
  refine XK.callG [0,321] (hnum n [3,4,2,5] (by omega) (by decide) (by decide)) ok73 (hhp2 rfl rfl) (hbT ()) (fun d h' ⟨_,_,_,e⟩=>by subst e;simp) ?_
  rintro _ _ ⟨nv,rfl,hnv,rfl⟩ _
  obtain ⟨a,rfl,ha5⟩:∃ a:Nat,nv=(a:Int)∧a≤5:=⟨nv.toNat,by simp at hnv;omega,by simp at hnv;omega⟩
  clear hnv
  iterate 1 (try (refine drvZ Tryz.func29 ?_;simp only [go_sem,rdr]))
  refine Go.loopQ (fun x : Nat × List Int => [(0, .c (.ptr 0 0)), (2, .c (.ptr 1 0)), (3, .c (.ptr 66 0)), (4, DI .i64 x.1)])
    (fun x=>[(0,some (rdr bs ((n+1+x.2.length:Nat):Int))),(1,some [.v (.slice none 0 0),.v (.slice none 0 0),.v (.slice none 0 0)]),(66,some [.msl 67 1 0 x.2.length,.v (.slice none 0 0),.v (.slice none 0 0)]),(67,some (x.2.map I64))])
    4096 (fun x=>x.1+x.2.length≤5) (fun x=>x.1) ?_ (a,[]) (fun j=>if j=66 then some 129 else if j=67 then none else some j) [] _ (by simp;omega) ?_
  · rintro ⟨i,vs⟩ hi again
    simp only at hi
    rcases i with _ | i
    · have hip:((0:Int)<0)=False:=eq_false (by omega)
      refine drvL Tryz.func29 ?_
      simp only [go_sem,rdr,hip,Int.natCast_zero]
      iterate 3 ((try (refine drvZ Tryz.func29 ?_;simp only [go_sem,rdr]));((with_reducible and_intros)<;>try exact sd))
      refine XK.callG [0,4288] (hnum (n+1+vs.length) [1,2,0,1] (by omega) (by decide) (by decide)) ok73 (hhp2 rfl rfl) (hbT ()) (fun d h' ⟨_,_,_,e⟩=>by subst e;simp) ?_
      rintro _ _ ⟨nv,rfl,hnv,rfl⟩ _
      obtain ⟨a2,rfl,ha2⟩:∃ a:Nat,nv=(a:Int)∧a≤2:=⟨nv.toNat,by simp at hnv;omega,by simp at hnv;omega⟩
      clear hnv again
      ((try (refine drvZ Tryz.func29 ?_;simp only [go_sem,rdr]));((with_reducible and_intros)<;>try exact sd))
      refine Go.loopQ (fun x : Nat × List Int => [(0, .c (.ptr 0 0)), (2, .c (.ptr 1 0)), (3, .c (.ptr 66 0)), (5, DI .i64 x.1)])
        (fun x=>[(0,some (rdr bs ((n+1+vs.length+1+x.2.length:Nat):Int))),(1,some [.v (.slice none 0 0),.v (.slice none 0 0),.v (.slice none 0 0)]),(66,some [isI vs,.msl 68 1 0 x.2.length,.v (.slice none 0 0)]),(68,some (x.2.map I64))])
        8192 (fun x=>x.1+x.2.length≤2) (fun x=>x.1) ?_ (a2,[]) (fun j=>if j=68 then none else some j) [67] _ (by simp;omega) ?_
      · rintro ⟨i,ar⟩ hi again
        simp only at hi
        rcases i with _ | i
        · have hip:((0:Int)<0)=False:=eq_false (by omega)
          refine drv_sound (n:=3) (rs:=_) Tryz.func29 mo rfl none _ _ ?_
          simp only [go_sem,rdr]
          refine XK.subQ (r := some) (fz := [68]) (tl := [(0, .c (.ptr 0 0)), (2, .c (.ptr 1 0)), (3, .c (.ptr 66 0)), (5, DI .i64 0)])
            (hl:=[(0,some (rdr bs ((n+1+vs.length+1+ar.length:Nat):Int))),(1,some [.v (.slice none 0 0),.v (.slice none 0 0),.v (.slice none 0 0)]),(66,some [isI vs,isI ar,.isl 11 []])]) ?_ ?_
          · simp only [go_sem,TmOK,DM,DMs,CM,CMs,forall_eq,exists_eq_left,Mq,HpOK,LowOK,rdr]
            simp [CMs,kf,flat_I']
          iterate 3 ((try (refine drvZ Tryz.func29 ?_;simp only [go_sem,rdr,hip]));((with_reducible and_intros)<;>try exact sd))
          refine XK.callG [0,8512] (hnum (n+1+vs.length+1+ar.length) [2,3,1,4] (by omega) (by decide) (by decide)) ok73 (hhp2 rfl rfl) (hbT ()) (fun d h' ⟨_,_,_,e⟩=>by subst e;simp) ?_ (fun _=>⟨by kernel_rfl,_,_,⟨1,rfl,by simp,rfl⟩,by simp⟩)
          rintro _ _ ⟨nv,rfl,hnv,rfl⟩ _
          obtain ⟨nn,rfl,hnn⟩:∃ a:Nat,nv=(a:Int)∧a≤4:=⟨nv.toNat,by simp at hnv;omega,by simp at hnv;omega⟩
          clear hnv again
          have hvs:vs.length≤5:=by omega
          have har:ar.length≤2:=by omega
          have hdb:=((draws bs ⟨vs,ar,[]⟩ hb hl (by simp only;omega) (by simp only;omega) 2 (by omega)).2 (n+1+vs.length+1+ar.length+1) nn hnn (by have:=KS_le 2 (by omega);omega))
          iterate 2 ((try (refine drvZ Tryz.func29 ?_;simp only [go_sem,rdr,hip]));((with_reducible and_intros)<;>try exact sd))
          refine XK.callG [0] hdb ok85 (hhp_one rfl) (hbT ()) (fun d h' ⟨_,_,_,_,_,_,_,e⟩=>by subst e;simp) ?_ (fun _=>⟨by kernel_rfl,_,_,⟨[],rfl,by simp,by simp,n+1+vs.length+1+ar.length+1,by omega,by omega,rfl⟩,by simp⟩)
          rintro _ _ ⟨bd,rfl,hbl,hbs,m,hm1,hm2,rfl⟩ _
          have hKS:KS 2=87600:=rfl
          have hls:=lsize_sm 2 5 bd hbs
          have hpv:=programValidS ⟨vs,ar,bd⟩ (by simp only;omega) (by simp only;omega) (by simp only;omega)
          iterate 3 ((try (refine drvZ Tryz.func29 ?_;simp only [go_sem,rdr,hip]));((with_reducible and_intros)<;>try exact sd))
          refine XK.plain hpv ok86 ?_ (hbT ())
          cases hq:progOK ⟨vs,ar,bd⟩ with
          | true =>
            iterate 3 ((try (refine drvZ Tryz.func29 ?_;simp only [go_sem,rdr,hq]));((with_reducible and_intros)<;>try exact sd))
            refine RetOb.keep1 (d := .agg (Pg.cells ⟨vs,ar,bd⟩)) (cs:=rdr bs m) (by rw [← hR];exact ⟨⟨vs,ar,bd⟩,rfl,⟨hq,hvs,har,hbl,hbs⟩,m,by omega,by omega,rfl⟩) rfl (rdr_kf _ _) ?_
            intro c hc
            simp only [Pg.cells,isI,List.mem_cons,List.not_mem_nil,or_false] at hc
            rcases hc with rfl | rfl | rfl<;>rfl
          | false =>
            iterate 3 ((try (refine drvZ Tryz.func29 ?_;simp only [go_sem,rdr,hq]));((with_reducible and_intros)<;>try exact sd))
            refine RetOb.step some [] (.agg [.msl 8960 1 0 2,.isl 1 [],.msl 9152 11 0 1]) [(0,some (rdr bs m)),(8960,some [I64 0,I64 1]),(9152,some (stC fixP.body))] ?_ ?_
            · simp [hOf,DM,DMs,CM,CMs,HpOK,LowOK,upd,rdr,stC,fixP,St1.cells,St1.cellsL,Ex.cells,Ex.cellsL,Ex0]
            refine RetOb.ofQ (fun j=>if j=0 then some 0 else none) [8960,9152] (.agg (Pg.cells fixP)) [some (rdr bs m)] ?_ ?_ (by simp)
            · simp [enumL,hOf,DM,DMs,CM,CMs,HpOK,LowOK,upd,rdr,stC,fixP,Pg.cells,isI,St1.cells,St1.cellsL,Ex.cells,Ex.cellsL,Ex0,kf]
            · rw [← hR];exact ⟨fixP,rfl,DrP.fix,m,by omega,by omega,rfl⟩
        · have hip:((0:Int)<(i:Int)+1)=True:=eq_true (by omega)
          refine drvL Tryz.func29 ?_
          simp only [go_sem,rdr,hip]
          iterate 3 ((try (refine drvZ Tryz.func29 ?_;simp only [go_sem,rdr]));((with_reducible and_intros)<;>try exact sd))
          refine XK.callG [0,8512] (hnum (n+1+vs.length+1+ar.length) [0,1,0,1,3] (by omega) (by decide) (by decide)) ok73 (hhp2 rfl rfl) (hbT ()) (fun d h' ⟨_,_,_,e⟩=>by subst e;simp) ?_ (fun _=>⟨by kernel_rfl,_,_,⟨0,rfl,by simp,rfl⟩,by simp⟩)
          rintro _ _ ⟨v,rfl,hv,rfl⟩ _
          clear hv
          iterate 4 ((try (refine drvZ Tryz.func29 ?_;simp only [go_sem,rdr]));((with_reducible and_intros)<;>try exact sd))
          refine again (i,ar++[v]) (fun j=>if j=68 then some 8704 else some j) [] _ (by simp;omega) (by simp) ?_
          simp only [go_sem,TmOK,DM,DMs,CM,CMs,forall_eq,exists_eq_left,Mq,HpOK,LowOK,rdr,i_snoc]
          simp
          exact ⟨by omega,CMs.kf (kf_app (kf_I _) (by simp [kf]))⟩
      · simp only [go_sem,TmOK,DM,DMs,CM,CMs,forall_eq,exists_eq_left,Mq,HpOK,LowOK,rdr]
        simp [CMs,kf,flat_I']
    · have hip:((0:Int)<(i:Int)+1)=True:=eq_true (by omega)
      refine drvL Tryz.func29 ?_
      simp only [go_sem,rdr,hip]
      iterate 3 ((try (refine drvZ Tryz.func29 ?_;simp only [go_sem,rdr]));((with_reducible and_intros)<;>try exact sd))
      refine XK.callG [0,4416] (hnum (n+1+vs.length) [0,1,0,1,2,3] (by omega) (by decide) (by decide)) ok73 (hhp2 rfl rfl) (hbT ()) (fun d h' ⟨_,_,_,e⟩=>by subst e;simp) ?_ (fun _=>⟨by kernel_rfl,_,_,⟨0,rfl,by simp,rfl⟩,by simp⟩)
      rintro _ _ ⟨v,rfl,hv,rfl⟩ _
      clear hv
      iterate 4 ((try (refine drvZ Tryz.func29 ?_;simp only [go_sem,rdr]));((with_reducible and_intros)<;>try exact sd))
      refine again (i,vs++[v]) (fun j=>if j=67 then some 4608 else some j) [] _ (by simp;omega) (by simp) ?_
      simp only [go_sem,TmOK,DM,DMs,CM,CMs,forall_eq,exists_eq_left,Mq,HpOK,LowOK,rdr,i_snoc]
      simp
      exact ⟨by omega,CMs.kf (kf_app (kf_I _) (by simp [kf]))⟩
  · simp only [go_sem,TmOK,DM,DMs,CM,CMs,forall_eq,exists_eq_left,Mq,HpOK,LowOK,rdr]
    simp [CMs]
def meR (bs:List Int) (n:Nat) (p:Pg) (r:D) (h:List (Option (List C))):Prop:=∃ m:Mm,r = .agg m.cells∧MemFits p m∧rdL bs n 30 h
theorem a_snoc (l:List (List Int)) (x:List Int):(l++[x]).map isI=l.map isI++[isI x]:=by simp
theorem hdF (l:List (List Int)):(l.map fun a=>[isI a]).flatten=l.map isI:=flat1 _ l
theorem rI (l:List Int) (x:Int) (h:∀ y ∈ l,0≤y∧y≤255) (h2:0≤x∧x≤255):∀ y ∈ l++[x],0≤y∧y≤255:=fun y hy=>by
  rcases List.mem_append.1 hy with h3 | h3
  · exact h y h3
  · rw [List.mem_singleton.1 h3];exact h2
theorem l3Memory (bs:List Int) (n:Nat) (p:Pg) (hb:Fits .u8 bs) (hl:bs.length≤2000) (hn:n≤274877906944) (hp:1≤p.vars.length∧p.vars.length≤12) (hp2:p.arrays.length≤2):DC Tryz.prog 30 [.c (.ptr 0 0),.agg p.cells] [some (rdr bs n)] (meR bs n p):=by
  have hmx:=mx_eq
  have hval:=fun n h=>l3Value bs n hb hl h
  generalize hR:meR bs n p=R
  obtain ⟨vs,ar,bd⟩:=p
  have hp:1≤vs.length∧vs.length≤12:=hp
  have hp2:ar.length≤2:=hp2
  refine dcZ Tryz.func30 ?_
  simp only [go_sem,rdr]
  ((try (refine drvZ Tryz.func30 ?_;simp only [go_sem,rdr]));((with_reducible and_intros)<;>try exact sd))
  refine Go.loopQ (fun x : Nat × List Int => [(0, .c (.ptr 0 0)), (3, .c (.ptr 1 0)), (4, .c (.ptr 65 0)), (5, .c (.ptr 66 0)), (6, DI .i64 x.2.length)])
    (fun x=>[(0,some (rdr bs x.1)),(1,some (Pg.cells ⟨vs,ar,bd⟩)),(65,some [.v (.slice none 0 0),.v (.slice none 0 0)]),(66,some [.msl 67 1 0 x.2.length,.v (.slice none 0 0)]),(67,some (x.2.map I64))])
    4096 (fun x=>x.2.length≤vs.length∧n≤x.1∧x.1≤n+x.2.length∧∀ y ∈ x.2,0≤y∧y≤255) (fun x=>vs.length - x.2.length) ?_ (n,[]) (fun j=>if j=66 then some 193 else if j=67 then none else some j) [] _ (by simp) ?_
  · rintro ⟨pos,l⟩ ⟨hi1,hi2,hi3,hi4⟩ again
    simp only at hi1 hi2 hi3 hi4
    rcases Nat.lt_or_ge l.length vs.length with hlt | hge
    · refine drvL Tryz.func30 ?_
      simp only [go_sem,rdr,hlt]
      iterate 3 ((try (refine drvZ Tryz.func30 ?_;simp only [go_sem,rdr]));((with_reducible and_intros)<;>try exact sd))
      refine XK.callG [0] (hval pos (by omega)) ok87 (hhp_one rfl) (hbT ()) (fun d h' ⟨_,_,_,_,_,_,e⟩=>by subst e;simp) ?_ (fun _=>⟨by kernel_rfl,_,_,⟨0,rfl,by omega,pos,by omega,by omega,rfl⟩,by simp⟩)
      rintro _ _ ⟨v,rfl,hv,pos',hp1,hp3,rfl⟩ _
      iterate 4 ((try (refine drvZ Tryz.func30 ?_;simp only [go_sem,rdr]));((with_reducible and_intros)<;>try exact sd))
      refine again (pos',l++[v]) (fun j=>if j=67 then some 4736 else some j) [] _ ⟨by simp;omega,by omega,by simp;omega,rI l v hi4 hv⟩ (by simp;omega) ?_
      simp only [go_sem,TmOK,DM,DMs,CM,CMs,forall_eq,exists_eq_left,Mq,HpOK,LowOK,rdr,i_snoc]
      simp
      exact CMs.kf (kf_app (kf_I _) (by simp [kf]))
    · have hnl:¬ l.length<vs.length:=by omega
      refine drvL Tryz.func30 ?_
      simp only [go_sem,rdr,hnl]
      iterate 3 ((try (refine drvZ Tryz.func30 ?_;simp only [go_sem,rdr]));((with_reducible and_intros)<;>try exact sd))
      refine Go.loopQ (fun x : Nat × List (List Int) => [(0, .c (.ptr 0 0)), (3, .c (.ptr 1 0)), (4, .c (.ptr 65 0)), (5, .c (.ptr 66 0)), (7, DI .i64 x.2.length)])
        (fun x=>[(0,some (rdr bs x.1)),(1,some (Pg.cells ⟨vs,ar,bd⟩)),(65,some [.v (.slice none 0 0),.v (.slice none 0 0)]),(66,some [isI l,.msl 68 1 0 x.2.length]),(68,some (x.2.map isI))])
        8192 (fun x=>x.2.length≤ar.length∧n≤x.1∧x.1≤n+l.length+4 * x.2.length∧∀ a ∈ x.2,a.length=4∧∀ y ∈ a,0≤y∧y≤255) (fun x=>ar.length - x.2.length) ?_ (pos,[]) (fun j=>if j=68 then none else some j) [67] _ (by simp;omega) ?_
      · clear again
        rintro ⟨pos,arrs⟩ ⟨hj1,hj2,hj3,hj4⟩ again
        simp only at hj1 hj2 hj3 hj4
        rcases Nat.lt_or_ge arrs.length ar.length with hlt | hge2
        · refine drvL Tryz.func30 ?_
          simp only [go_sem,rdr,hlt]
          iterate 3 ((try (refine drvZ Tryz.func30 ?_;simp only [go_sem,rdr]));((with_reducible and_intros)<;>try exact sd))
          refine Go.loopQ (fun x : Nat × List Int => [(0, .c (.ptr 0 0)), (3, .c (.ptr 1 0)), (4, .c (.ptr 65 0)), (5, .c (.ptr 66 0)), (7, DI .i64 arrs.length), (8, .c (.msl 69 1 0 x.2.length)), (9, DI .i64 x.2.length)])
            (fun x=>[(0,some (rdr bs x.1)),(1,some (Pg.cells ⟨vs,ar,bd⟩)),(65,some [.v (.slice none 0 0),.v (.slice none 0 0)]),(66,some [isI l,.msl 68 1 0 arrs.length]),(68,some (arrs.map isI)),(69,some (x.2.map I64))])
            16384 (fun x=>x.2.length≤4∧pos≤x.1∧x.1≤pos+x.2.length∧∀ y ∈ x.2,0≤y∧y≤255) (fun x=>4 - x.2.length) ?_ (pos,[]) (fun j=>if j=69 then some 8512 else some j) [] _ (by simp) ?_
          · rintro ⟨ps,a⟩ ⟨hk1,hk2,hk3,hk4⟩ again2
            simp only at hk1 hk2 hk3 hk4
            rcases Nat.lt_or_ge a.length 4 with hlt2 | hge3
            · have h4:((a.length:Int)<4)=True:=eq_true (by omega)
              refine drvL Tryz.func30 ?_
              simp only [go_sem,rdr,h4]
              iterate 3 ((try (refine drvZ Tryz.func30 ?_;simp only [go_sem,rdr]));((with_reducible and_intros)<;>try exact sd))
              refine XK.callG [0] (hval ps (by omega)) ok87 (hhp_one rfl) (hbT ()) (fun d h' ⟨_,_,_,_,_,_,e⟩=>by subst e;simp) ?_
              rintro _ _ ⟨v,rfl,hv,ps',hp1,hp3,rfl⟩ _
              iterate 4 ((try (refine drvZ Tryz.func30 ?_;simp only [go_sem,rdr]));((with_reducible and_intros)<;>try exact sd))
              refine again2 (ps',a++[v]) (fun j=>if j=69 then some 16768 else some j) [] _ ⟨by simp;omega,by omega,by simp;omega,rI a v hk4 hv⟩ (by simp;omega) ?_
              simp only [go_sem,TmOK,DM,DMs,CM,CMs,forall_eq,exists_eq_left,Mq,HpOK,LowOK,rdr,i_snoc]
              simp
              exact ⟨CMs.kf (kf_A _),CMs.kf (kf_app (kf_I _) (by simp [kf]))⟩
            · have h4:((a.length:Int)<4)=False:=eq_false (by omega)
              have ha4:a.length=4:=by omega
              refine drv_sound (n:=3) (rs:=_) Tryz.func30 mo rfl none _ _ ?_
              simp only [go_sem,rdr]
              refine XK.freeze 8 69 1 a.length (a.map fun n=>[I64 n]) ?_ (by rw [flat_I];rfl) rfl (by simp) (by simp) (by simp [kf])
              iterate 6 ((try (refine drvZ Tryz.func30 ?_;simp only [go_sem,rdr,h4]));((with_reducible and_intros)<;>try exact sd))
              refine again (ps,arrs++[a]) (fun j=>if j=68 then some 16768 else some j) [] _ ⟨by simp;omega,by omega,by simp;omega,?_⟩ (by simp;omega) ?_
              · intro b hb2
                rcases List.mem_append.1 hb2 with h3 | h3
                · exact hj4 b h3
                · rw [List.mem_singleton.1 h3];exact ⟨ha4,hk4⟩
              · simp only [go_sem,TmOK,DM,DMs,CM,CMs,forall_eq,exists_eq_left,Mq,HpOK,LowOK,rdr,a_snoc]
                simp
                exact CMs.kf (kf_app (kf_A _) (by simp [kf]))
          · simp only [go_sem,TmOK,DM,DMs,CM,CMs,forall_eq,exists_eq_left,Mq,HpOK,LowOK,rdr]
            simp [CMs]
            exact CMs.kf (kf_A _)
        · have hnl:¬ arrs.length<ar.length:=by omega
          refine drvL Tryz.func30 ?_
          simp only [go_sem,rdr,hnl]
          iterate 3 ((try (refine drvZ Tryz.func30 ?_;simp only [go_sem,rdr]));((with_reducible and_intros)<;>try exact sd))
          refine RetOb.ofQ (fun j=>if j=0 then some 0 else none) [68] (.agg (Mm.cells ⟨l,arrs⟩)) [some (rdr bs pos)] ?_ ?_ (by simp)
          · simp [enumL,hOf,DM,DMs,CM,CMs,HpOK,LowOK,upd,rdr,Mm.cells,isI,hdF,kf]
            exact (flat1 isI arrs).symm
          · rw [← hR];exact ⟨⟨l,arrs⟩,rfl,⟨by simp only;omega,by simp only;omega,by simp only;omega,hp2,hi4,hj4⟩,pos,by omega,by omega,rfl⟩
      · simp only [go_sem,TmOK,DM,DMs,CM,CMs,forall_eq,exists_eq_left,Mq,HpOK,LowOK,rdr]
        simp [CMs,kf,flat_I']
  · simp only [go_sem,TmOK,DM,DMs,CM,CMs,forall_eq,exists_eq_left,Mq,HpOK,LowOK,rdr]
    simp [CMs]
theorem sim_shrink {m : Nat} {I : Nat → Prop} {w : World} {s : Sg} {hp : Hp} (H : SimH I w s hp) (k : Nat) (cs ds : List C) (hk : hp k = some (some (cs ++ ds))) :
    SimH I w s (upd hp k (some (some cs)))∧Ext m I w s hp I w s (upd hp k (some (some cs))):=by
  rcases H.blk k _ hk with ⟨h1,h2⟩ | ⟨b,arr,T,h1,h2,h3,h4,h5⟩
  · have e:cs=[]∧ds=[]:=List.append_eq_nil_iff.1 h2
    have e2:upd hp k (some (some cs))=hp:=funext fun j=>by
      by_cases hj:j=k
      · subst hj;rw [upd_same,hk,e.1,e.2];rfl
      · rw [upd_ne _ _ hj]
    rw [e2]
    exact ⟨H,Ext.refl _ _ _ _ _⟩
  · refine sim_store (m:=m) H k _ cs hk b arr arr T h1 h2 rfl (by rw [List.length_append] at h3;omega) (fun j hj=>?_) ?_
    · obtain ⟨y,hy,hr⟩:=h5 j (by rw [List.length_append];omega)
      refine ⟨y,hy,?_⟩
      rw [List.getElem_append_left hj] at hr
      exact hr
    · have:w.heap.setIfInBounds b (.cells arr T (0,0))=w.heap:=by
        apply Array.ext_getElem?
        intro j
        rw [Array.getElem?_setIfInBounds]
        by_cases e:b=j
        · subst e;rw [if_pos rfl,if_pos (lt_of_heap h2),h2]
        · simp [e]
      rw [this]
theorem RetOb.shrink {m:Nat} {R:D→List (Option (List C))→Prop} {d:D} {hp:Hp} {k:Nat} {cs ds:List C} (hk:hp k=some (some (cs++ds))) (hn:RetOb m R d (upd hp k (some (some cs)))):RetOb m R d hp:=fun I w s v H hv=>by
  obtain ⟨H',E'⟩:=sim_shrink H k cs ds hk
  obtain ⟨I',s',d2,h2,g1,g2,g3,g4,g5⟩:=hn I w s v H' hv
  exact ⟨I',s',d2,h2,g1,g2,g3,E'.trans g4,g5⟩
def hdA (k2 k3 : Nat) : List (List Int) → List C
  | []=>[]
  | [a]=>[.msl k2 1 0 a.length]
  | a :: b :: _=>[.msl k2 1 0 a.length,.msl k3 1 0 b.length]
theorem RetOb.memK {R : D → List (Option (List C)) → Prop} {m : Mm} {hp : Hp} {k0 k1 k2 k3 nv na : Nat} {rc : List C} (hna : m.arrays.length ≤ 2) (hR : R (.agg m.cells) [some rc]) (hrc : ∀ c ∈ rc, kf c = true)
    (hz:hp 0=some (some rc)) (h0:hp k0=some (some (m.vals.map I64))) (h1:hp k1=some (some (hdA k2 k3 m.arrays))) (h2:hp k2=some (some (blk0 m.arrays))) (h3:hp k3=some (some (blk1 m.arrays))) (hv:nv=m.vals.length) (hn:na=m.arrays.length)
    (hne:k0 ≠ k1∧k0 ≠ k2∧k0 ≠ k3∧k1 ≠ k2∧k1 ≠ k3∧k2 ≠ k3∧0 ≠ k0∧0 ≠ k1∧0 ≠ k2∧0 ≠ k3):RetOb 1 R (.agg [.msl k0 1 0 nv,.msl k1 1 0 na]) hp:=by
  subst hv hn
  obtain ⟨va,arr⟩:=m
  obtain ⟨n01,n02,n03,n12,n13,n23,nt0,nt1,nt2,nt3⟩:=hne
  refine RetOb.step (fun j=>if j=0 then some 0 else if j=1 then some k0 else if j=2 then some k1 else none) [k2,k3] (.agg [.msl 1 1 0 va.length,.msl 2 1 0 arr.length]) [(0,some rc),(1,some (va.map I64)),(2,some (arr.map isI))] ?_ ?_
  · have e3:∀ a:List Int,(a.map fun n=>[C.v (.int .i64 n)]).flatten=a.map I64:=fun a=>flat1 _ a
    have e4:∀ {hT hS:Hp} {r:Nat→Option Nat} {fz:List Nat},CMs hT r hS fz rc rc=True:=eq_true (CMs.kf hrc)
    match arr,hna,h1,h2,h3 with
    | [],_,h1,h2,h3=>simp [DM,DMs,CM,CMs,HpOK,LowOK,hOf,upd,hz,h0,CMs_I,e4,h1,hdA,n01,n02,n03,n12,n13,n23,nt0,nt1,nt2,nt3,Ne.symm n01,Ne.symm nt0,Ne.symm nt1,Ne.symm n23]
    | [a],_,h1,h2,h3 =>
      simp [DM,DMs,CM,CMs,HpOK,LowOK,hOf,upd,hz,h0,CMs_I,e4,h1,h2,hdA,n01,n02,n03,n12,n13,n23,nt0,nt1,nt2,nt3,Ne.symm n01,Ne.symm nt0,Ne.symm nt1,Ne.symm n23,e3,isI,blk0,kf]
    | [a,b],_,h1,h2,h3 =>
      simp [DM,DMs,CM,CMs,HpOK,LowOK,hOf,upd,hz,h0,CMs_I,e4,h1,h2,h3,hdA,n01,n02,n03,n12,n13,n23,nt0,nt1,nt2,nt3,Ne.symm n01,Ne.symm nt0,Ne.symm nt1,Ne.symm n23,e3,isI,blk0,blk1,kf]
  · refine RetOb.ofQ (fun j=>if j=0 then some 0 else none) [1,2] _ [some rc] ?_ hR (by simp)
    have e4:∀ {hT hS:Hp} {r:Nat→Option Nat} {fz:List Nat},CMs hT r hS fz rc rc=True:=eq_true (CMs.kf hrc)
    simp [enumL,DM,DMs,CM,CMs,HpOK,LowOK,hOf,upd,Mm.cells,isI,flat_I,kf,e4]
    exact (flat1 isI arr).symm
theorem hdr_hdA (k k':Nat) (arr:List (List Int)) (h:arr.length≤2) (h4:∀ a ∈ arr,a.length=4):hdr k k' arr.length=hdA k k' arr:=by
  match arr,h,h4 with
  | [],_,_=>rfl
  | [a],_,h4=>simp [hdr,hdA,h4 a (by simp)]
  | [a,b],_,h4=>simp [hdr,hdA,h4 a (by simp),h4 b (by simp)]
theorem renC_kf (r : Nat → Nat) : ∀ c : C, kf c = true → renC r c = c
  | .v _,_ | .isl _ _,_ | .csl _ _ _,_ | .num _,_ | .z,_ | .unk,_ | .eptr _,_ | .met _ _,_=>rfl
  | .msl _ _ _ _,h | .ptr _ _,h | .clo _ _,h=>by simp [kf] at h
theorem renCs_kf (r:Nat→Nat) (cs:List C) (h:∀ c ∈ cs,kf c=true):renCs r cs=cs:=by
  rw [renCs_eq]
  conv=>rhs;rw [← List.map_id cs]
  exact List.map_congr_left fun c hc=>renC_kf r c (h c hc)
theorem SmE.any {k v k' v':Int} {ks:List Ex} (h:SmE (.mk k v ks)):SmE (.mk k' v' ks):=by
  cases h with | mk _ _ _ h h2=>exact .mk _ _ _ h h2
theorem fits_take {k:IntKind} {bs:List Int} (h:Fits k bs) (n:Nat):Fits k (bs.take n):=fun x hx=>h x (List.mem_of_mem_take hx)
theorem renCs_rdr (r:Nat→Nat) (bs:List Int) (n:Int):renCs r (rdr bs n)=rdr bs n:=renCs_kf r _ (rdr_kf bs n)
theorem prog_len {p:Pg} (h:progOK p=true):1≤p.vars.length∧p.vars.length≤12∧p.arrays.length≤2:=by
  simp only [progOK,headsOK,Bool.and_eq_true,decide_eq_true_eq] at h
  obtain ⟨⟨⟨⟨⟨_,h1⟩,h2⟩,h3⟩,_⟩,_⟩:=h
  omega
end Go.Proofs.YtbknljofedfpjaaGreat.CtD
namespace Go.Proofs.YtbknljofedfpjaaGreat.CtR
open Go Go.CT CtF
variable [Yn]
theorem memOK_of {p:Pg} {m:Mm} (h:MemFits p m):memOK p.vars p.arrays m=true:=by
  simp only [memOK,vals01,arrOK,Bool.and_eq_true,decide_eq_true_eq,List.all_eq_true]
  refine ⟨⟨⟨by rw [h.nv],by rw [h.na]⟩,fun x hx=>h.val x hx⟩,fun a ha=>⟨by have:=(h.arr a ha).1;omega,fun x hx=>(h.arr a ha).2 x hx⟩⟩
theorem runP_of {p:Pg} {m:Mm} (h1:progOK p=true) (h2:memOK p.vars p.arrays m=true):runP p m=((runL 5 m p.body).1,(runL 5 m p.body).2,true):=runP_true (by rw [h1,h2];rfl)
def lab3 (l:List Int):Prop:=∀ x ∈ l,0≤x∧x≤3
theorem labs_of {p:Pg} (h:progOK p=true):lab3 p.vars∧lab3 p.arrays:=by
  simp only [progOK,headsOK,labs,Bool.and_eq_true,decide_eq_true_eq,List.all_eq_true] at h
  exact ⟨fun x hx=>h.1.1.1.2 x hx,fun x hx=>h.1.1.2 x hx⟩
theorem RetOb.two {R:D→List (Option (List C))→Prop} {a b:Int} {hp:Hp} (h:R (.tup [DI .i64 a,DI .i64 b]) []):RetOb 0 R (.tup [DI .i64 a,DI .i64 b]) hp :=
  RetOb.ofQ (fun _=>none) [] (.tup [DI .i64 a,DI .i64 b]) [] (by simp [enumL,DM,DMs,CM,HpOK,LowOK]) h (by simp)
abbrev BC (b:Bool):C := .v (.bool b)
def boolsC (bs:List Bool):List C:=bs.map BC
def boolsD (bs:List Bool):C := .isl 1 (bs.map fun b=>[BC b])
theorem boolsC_kf (bs:List Bool):∀ c ∈ boolsC bs,kf c=true:=by
  intro c hc;obtain ⟨x,_,rfl⟩:=List.mem_map.1 hc;rfl
theorem boolsC_set (bs:List Bool) (i:Nat) (b:Bool):(boolsC bs).set i (.v (.bool b))=boolsC (bs.set i b):=by
  unfold boolsC;rw [List.map_set]
theorem boolsC_len (bs:List Bool):(boolsC bs).length=bs.length:=by simp [boolsC]
theorem boolsC_rep (n:Nat) (b:Bool):(List.replicate n [C.v (.bool b)]).flatten=boolsC (List.replicate n b):=by
  induction n with
  | zero=>rfl
  | succ n ih=>rw [List.replicate_succ,List.flatten_cons,ih,List.replicate_succ];rfl
theorem boolsC_ren (r:Nat→Nat) (bs:List Bool):renCs r (boolsC bs)=boolsC bs:=by
  induction bs with
  | nil=>rfl
  | cons a r' ih=>simp only [boolsC,List.map_cons,renCs,renC] at ih ⊢;rw [ih]
theorem boolsC_flat (bs:List Bool):(bs.map fun b=>[BC b]).flatten=boolsC bs:=flat1 _ _
end Go.Proofs.YtbknljofedfpjaaGreat.CtR
namespace Go.Proofs.YtbknljofedfpjaaGreat.CtD
open Go Go.CT CtF CtR
variable [Yn]
theorem runP_sm (p:Pg) (m:Mm):(runP p m).1.vals.length≤12∧(runP p m).1.arrays.length≤2∧(∀ a ∈ (runP p m).1.arrays,a.length≤4)∧(runP p m).2.1.length≤1000000:=by
  cases hq:(progOK p && memOK p.vars p.arrays m) with
  | false=>rw [runP_false hq];simp
  | true =>
    rw [runP_true hq]
    have hm:=memFits_of hq
    simp only [Bool.and_eq_true] at hq
    have hb:=body_of hq.1
    have h:=runL_ok hm hb.1
    have h2:=h.2
    rw [wt5] at h2
    refine ⟨by rw [h.1.nv];exact hm.nv12.2,by rw [h.1.na];exact hm.na2,fun a ha=>by have:=(h.1.arr a ha).1;omega,?_⟩
    have:=hb.2
    simp only
    omega
end Go.Proofs.YtbknljofedfpjaaGreat.CtD
namespace Go.Proofs.YtbknljofedfpjaaGreat.CtR
open Go Go.CT CtF
variable [Yn]
end Go.Proofs.YtbknljofedfpjaaGreat.CtR
namespace Go.Proofs.YtbknljofedfpjaaGreat.CtD
open Go Go.CT CtF CtR
variable [Yn]
end Go.Proofs.YtbknljofedfpjaaGreat.CtD
namespace Go.Proofs.YtbknljofedfpjaaGreat.CtR
end Go.Proofs.YtbknljofedfpjaaGreat.CtR
namespace Go.Proofs.YtbknljofedfpjaaGreat.CtD
open Go Go.CT CtF CtR
variable [Yn]
end Go.Proofs.YtbknljofedfpjaaGreat.CtD
namespace Go.Proofs.YtbknljofedfpjaaGreat.CtF
end Go.Proofs.YtbknljofedfpjaaGreat.CtF
namespace Go.Proofs.YtbknljofedfpjaaGreat.CtR
end Go.Proofs.YtbknljofedfpjaaGreat.CtR
namespace Go.Proofs.YtbknljofedfpjaaGreat.CtD
open Go Go.CT CtF CtR
variable [Yn]
end Go.Proofs.YtbknljofedfpjaaGreat.CtD
namespace Go.Proofs.YtbknljofedfpjaaGreat.CtF
end Go.Proofs.YtbknljofedfpjaaGreat.CtF
namespace Go.Proofs.YtbknljofedfpjaaGreat.CtR
end Go.Proofs.YtbknljofedfpjaaGreat.CtR
namespace Go.Proofs.YtbknljofedfpjaaGreat.CtD
open Go Go.CT CtF CtR
variable [Yn]
end Go.Proofs.YtbknljofedfpjaaGreat.CtD
namespace Go.Proofs.YtbknljofedfpjaaGreat.CtF
end Go.Proofs.YtbknljofedfpjaaGreat.CtF
namespace Go.Proofs.YtbknljofedfpjaaGreat.CtR
end Go.Proofs.YtbknljofedfpjaaGreat.CtR
namespace Go.Proofs.YtbknljofedfpjaaGreat.CtD
open Go Go.CT CtF CtR
variable [Yn]
theorem jflat (L:List Bool):(L.map fun b=>[BC b]).flatten=boolsC L:=boolsC_flat L
theorem boolsC_snoc (ws:List Bool) (b:Bool):boolsC (ws++[b])=boolsC ws++[.v (.bool b)]:=by simp [boolsC,BC]
end Go.Proofs.YtbknljofedfpjaaGreat.CtD
namespace Go.Proofs.YtbknljofedfpjaaGreat.CtF
end Go.Proofs.YtbknljofedfpjaaGreat.CtF
namespace Go.Proofs.YtbknljofedfpjaaGreat.CtR
end Go.Proofs.YtbknljofedfpjaaGreat.CtR
namespace Go.Proofs.YtbknljofedfpjaaGreat.CtD
open Go Go.CT CtF CtR
variable [Yn]
theorem len0 {l:List St1} (h:¬ 0<l.length):l=[]:=List.eq_nil_of_length_eq_zero (by omega)
end Go.Proofs.YtbknljofedfpjaaGreat.CtD
namespace Go.Proofs.YtbknljofedfpjaaGreat.CtF
variable [Go.CT.Yn]
end Go.Proofs.YtbknljofedfpjaaGreat.CtF
namespace Go.Proofs.YtbknljofedfpjaaGreat.CtR
variable [Go.CT.Yn]
open Go Go.CT CtF
def subL (a b:Nat):Bool:=a ||| b == b
end Go.Proofs.YtbknljofedfpjaaGreat.CtR
