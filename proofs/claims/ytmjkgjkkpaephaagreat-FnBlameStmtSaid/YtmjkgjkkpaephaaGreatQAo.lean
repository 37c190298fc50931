/- Contracts of functions of the program, one behind the other, as plain data: what each call returns and which blocks it leaves. -/
import Derived.Test.YtmjkgjkkpaephaaGreatQFacts
import Derived.Test.YtmjkgjkkpaephaaGreatQAh
import Derived.Test.YtmjkgjkkpaephaaGreatQAj
import Derived.Test.YtmjkgjkkpaephaaGreatQAk
import Derived.Test.YtmjkgjkkpaephaaGreatQAl
import Derived.Test.YtmjkgjkkpaephaaGreatQAm
import Derived.Test.YtmjkgjkkpaephaaGreatQAn
set_option linter.unusedVariables false
set_option linter.unusedSimpArgs false
set_option maxHeartbeats 16000000
set_option maxRecDepth 100000
namespace Go.Proofs.YtmjkgjkkpaephaaGreat.CtD
open Go Go.CT CtF CtR
structure SmP (p : Pg) : Prop where
 nv:p.vars.length≤13
 na:p.arrays.length≤2
 nb:p.body.length≤4
 sz:∀ k,lsize k p.body≤1000
 sm:∀ s ∈ p.body,SmS 2 s
def bare : St1 → List Ex × List Ex × List St1 × List St1
 | .mk _ _ (.mk _ _ ki) (.mk _ _ kv) _ b e=>(ki,kv,b,e)
theorem SmE.any {k v k' v':Int} {ks:List Ex} (h:SmE (.mk k v ks)):SmE (.mk k' v' ks):=by
 cases h with | mk _ _ _ h h2=>exact .mk _ _ _ h h2
theorem bare_sm (d:Nat) {s s':St1} (h:bare s=bare s') (hs:SmS d s):SmS d s':=by
 obtain ⟨k1,t1,⟨a1,b1,c1⟩,⟨d1,e1,f1⟩,g1,h1,i1⟩:=s
 obtain ⟨k2,t2,⟨a2,b2,c2⟩,⟨d2,e2,f2⟩,g2,h2,i2⟩:=s'
 simp only [bare,Prod.mk.injEq] at h
 obtain ⟨rfl,rfl,rfl,rfl⟩:=h
 cases d with
 | zero=>simp only [SmS] at hs ⊢;exact ⟨hs.1.any,hs.2.1.any,hs.2.2⟩
 | succ d=>simp only [SmS] at hs ⊢;exact ⟨hs.1.any,hs.2.1.any,hs.2.2⟩
theorem bare_sml {d:Nat} {l l':List St1} (h:l'.map bare=l.map bare) (hs:∀ s ∈ l,SmS d s):∀ s ∈ l',SmS d s:=fun s hm=>by
 have h1:bare s ∈ l.map bare:=by rw [← h];exact List.mem_map.2 ⟨s,hm,rfl⟩
 obtain ⟨s0,h2,h3⟩:=List.mem_map.1 h1
 exact bare_sm d h3 (hs s0 h2)
structure SmQ (e : Nat) (p : Pg) : Prop where
 nv:p.vars.length≤13
 na:p.arrays.length≤2
 nb:p.body.length≤4
 sm:∀ s ∈ p.body,SmS e s
def muQ (e:Nat) (bs:List Int) (n:Nat) (r:D) (h:List (Option (List C))):Prop:=∃ p:Pg,r = .agg p.cells∧SmQ e p∧rdL bs n 5 h
theorem SmQ.smP {p:Pg} (h:SmQ 2 p):SmP p:=⟨h.nv,h.na,h.nb,fun k=>by
 have h1:=lsize_sm 2 k p.body h.sm
 have h2:p.body.length * 9 ^ 2≤4 * 9 ^ 2:=Nat.mul_le_mul_right _ h.nb
 omega,h.sm⟩
def muR (bs:List Int) (n:Nat) (r:D) (h:List (Option (List C))):Prop:=∃ p:Pg,r = .agg p.cells∧SmP p∧rdL bs n 5 h
theorem RetOb.prK {R : D → List (Option (List C)) → Prop} {p : Pg} {hp : Hp} {k0 k1 k2 nv na nb : Nat} {rc : List C} (hR : R (.agg p.cells) [some rc]) (hrc : ∀ c ∈ rc, kf c = true)
 (hz:hp 0=some (some rc)) (h0:hp k0=some (some (p.vars.map I64))) (h1:hp k1=some (some (p.arrays.map I64))) (h2:hp k2=some (some (stC p.body))) (hv:nv=p.vars.length) (ha:na=p.arrays.length) (hb:nb=p.body.length)
 (hne:0 ≠ k0∧0 ≠ k1∧0 ≠ k2):RetOb 1 R (.agg [.msl k0 1 0 nv,.msl k1 1 0 na,.msl k2 11 0 nb]) hp:=by
 subst hv ha hb
 obtain ⟨vs,ar,bd⟩:=p
 obtain ⟨n0,n1,n2⟩:=hne
 refine RetOb.ofQ (fun j=>if j=0 then some 0 else none) [k0,k1,k2] _ [some rc] ?_ hR (by simp)
 have e4:∀ {hT hS:Hp} {r:Nat→Option Nat} {fz:List Nat},CMs hT r hS fz rc rc=True:=eq_true (CMs.kf hrc)
 have g1:(St1.cellsL bd).flatten=stC bd:=by rw [St1.cellsL_eq];rfl
 have g2:∀ x ∈ St1.cellsL bd,x.length=11:=fun x hx=>by rw [St1.cellsL_eq] at hx;obtain ⟨e,_,rfl⟩:=List.mem_map.1 hx;exact St1.cells_len e
 have g3:∀ x ∈ St1.cellsL bd,∀ c ∈ x,kf c=true:=fun x hx=>by rw [St1.cellsL_eq] at hx;obtain ⟨e,_,rfl⟩:=List.mem_map.1 hx;exact st_kf e
 simp [enumL,DM,DMs,CM,CMs,HpOK,LowOK,hOf,upd,Pg.cells,isI,flat_I,kf,e4,hz,h0,h1,h2,g1,St1.cellsL_length,n0,n1,n2]
 exact ⟨g2,g3⟩
theorem DrP.smP {p:Pg} (h:DrP p):SmP p:=⟨by have:=h.nv;omega,h.na,h.nb,fun k=>by
 have h1:=lsize_sm 2 k p.body h.sm
 have h2:p.body.length * 9 ^ 2≤4 * 9 ^ 2:=Nat.mul_le_mul_right _ h.nb
 omega,h.sm⟩
theorem stC_cons (s:St1) (l:List St1):stC (s :: l)=s.cells++stC l:=by simp [stC]
theorem stC_nil:stC []=[]:=rfl
theorem l2MutateD (e : Nat) (bs : List Int) (n : Nat) (p : Pg) (hb : Fits .u8 bs) (hl : bs.length ≤ 2000) (hn : n ≤ 274877906944) (hpv : p.vars.length ≤ 5) (hpa : p.arrays.length ≤ 2) (hpb : p.body.length ≤ 4) (hsm : ∀ s ∈ p.body, SmS e s) :
 DC Tryz.prog 45 [.c (.ptr 0 0),.agg p.cells] [some (rdr bs n)] (muQ e bs n):=by
 have hmx:=mx_eq
 have hcp:=l2Copy p e (by omega) (by omega) (by omega) hsm
 have hnum:=fun n xs h1 h2 h3=>numO bs n xs hb hl h1 h2 h3
 generalize hR:muQ e bs n=R
 obtain ⟨vs,ar,bd⟩:=p
 have hv5:vs.length≤5:=hpv
 have ha2:ar.length≤2:=hpa
 have hb4:bd.length≤4:=hpb
 have hfin:∀ (k0 nv na nb:Nat) (n':Nat) (va':List Int) (bd':List St1) (hp:Hp),va'.length≤13→bd'.length≤4→bd'.map bare=bd.map bare→n≤n'→n'≤n+5→hp 0=some (some (rdr bs n'))→hp k0=some (some (va'.map I64))→hp 194=some (some (ar.map I64))→hp 195=some (some (stC bd'))→nv=va'.length→na=ar.length→nb=bd'.length →
  0 ≠ k0→RetOb 1 R (.agg [.msl k0 1 0 nv,.msl 194 1 0 na,.msl 195 11 0 nb]) hp:=fun k0 nv na nb n' va' bd' hp g1 g1b g1c g2 g3 g4 g5 g6 g7 g8 g9 g10 e4 =>
  RetOb.prK (p:=⟨va',ar,bd'⟩) (by rw [← hR];exact ⟨⟨va',ar,bd'⟩,rfl,⟨g1,ha2,g1b,bare_sml g1c hsm⟩,n',g2,g3,rfl⟩) (rdr_kf bs n') g4 g5 g6 g7 g8 g9 g10 ⟨e4,by decide,by decide⟩
 refine dcZ Tryz.func45 ?_
 simp only [go_sem,rdr]
 ((try (refine drvZ Tryz.func45 ?_;simp only [go_sem,rdr]));((with_reducible and_intros)<;>try exact sd))
 refine XK.callG [] hcp ok80 (fun i' x h=>by simp at h) (hbT ()) (fun d h' ⟨_,e⟩=>by subst e;simp) ?_
 rintro _ _ ⟨rfl,rfl⟩ _
 iterate 3 ((try (refine drvZ Tryz.func45 ?_;simp only [go_sem,renCs_I,renCs_stC,rdr]));((with_reducible and_intros)<;>try exact sd))
 refine XK.callG [0] (pick bs n 60 hb hl (by omega) (by simp only [InK];omega)) ok81 (hhp_one rfl) (hbT ()) (fun d h' ⟨v,_,_,e⟩=>by subst e;simp) ?_
 rintro _ _ ⟨v,rfl,hpv,rfl⟩ _
 have hpv:v=0∨v=1∨v=2∨v=3∨v=4∨v=5∨v=6∨(v ≠ 0∧v ≠ 1∧v ≠ 2∧v ≠ 3∧v ≠ 4∧v ≠ 5∧v ≠ 6):=by omega
 rcases hpv with rfl | rfl | rfl | rfl | rfl | rfl | rfl | ⟨h0,h1,h2,h3,h4,h5,h6⟩
 ·cases vs with
  | nil =>
   have hz:((0:Int)<0)=False:=eq_false (by omega)
   iterate 5 ((try (refine drvZ Tryz.func45 ?_;simp only [go_sem,rdr,Int.natCast_zero,hz]));((with_reducible and_intros)<;>try exact sd))
   exact hfin 193 _ _ _ (n+1) [] bd _ (by first | omega | (simp;omega) | simp) (by first | omega | (simp;omega) | simp) rfl (by omega) (by omega) rfl rfl rfl rfl rfl rfl rfl (by decide)
  | cons x r =>
   have hv5:r.length+1≤5:=hv5
   have hz:((0:Int)<(r.length:Int)+1)=True:=eq_true (by omega)
   iterate 5 ((try (refine drvZ Tryz.func45 ?_;simp only [go_sem,rdr,hz]));((with_reducible and_intros)<;>try exact sd))
   refine XK.callG [0] (l1Draw bs (n+1) hb hl (by omega)) ok82 (hhp_one rfl) (hbT ()) (fun d h' ⟨_,_,_,_,_,_,e⟩=>by subst e;simp) ?_ (fun _=>⟨by kernel_rfl,_,_,⟨0,rfl,by simp [InK],n+1,by omega,by omega,rfl⟩,by simp⟩)
   rintro _ _ ⟨w,rfl,hw,n',hn1,hn2,rfl⟩ _
   iterate 5 ((try (refine drvZ Tryz.func45 ?_;simp only [go_sem,rdr,hz]));((with_reducible and_intros)<;>try exact sd))
   exact hfin 193 _ _ _ n' (w :: r) bd _ (by first | omega | (simp;omega) | simp) (by omega) rfl (by omega) (by omega) rfl rfl rfl rfl rfl rfl rfl (by decide)
 ·iterate 5 ((try (refine drvZ Tryz.func45 ?_;simp only [go_sem,rdr]));((with_reducible and_intros)<;>try exact sd))
  refine Go.loopQ (fun l : List Int => [(4, .c (.ptr 65 0)), (5, .c (.ptr 257 0))])
   (fun l=>[(0,some (rdr bs ((n+1:Nat):Int))),(65,some [.v (.slice none 0 0),.v (.slice none 0 0),.v (.slice none 0 0)]),(257,some [.msl 67 1 0 l.length,.msl 194 1 0 ar.length,.msl 195 11 0 bd.length]),(67,some (l.map I64)),(194,some (ar.map I64)),(195,some (stC bd))])
   4096 (fun l=>l.length≤13) (fun l=>13 - l.length) ?_ vs (fun j=>if j=67 then some 193 else some j) [] _ (by omega) ?_
  ·intro l hi again
   rcases Nat.lt_or_ge l.length 13 with hlt | hge
   ·have hz:((l.length:Int)≤12)=True:=eq_true (by omega)
    refine drvL Tryz.func45 ?_
    simp only [go_sem,rdr,hz]
    iterate 4 ((try (refine drvZ Tryz.func45 ?_;simp only [go_sem,rdr,hz]));((with_reducible and_intros)<;>try exact sd))
    refine again (l++[1]) (fun j=>if j=67 then some 4544 else some j) [] _ (by simp;omega) (by simp;omega) ?_
    simp only [go_sem,TmOK,DM,DMs,CM,CMs,forall_eq,exists_eq_left,Mq,HpOK,LowOK,rdr,i_snoc]
    simp
    exact ⟨CMs.kf (kf_app (kf_I _) (by simp [kf])),CMs.kf (kf_I _),CMs.kf (stC_kf _)⟩
   ·have hz:((l.length:Int)≤12)=False:=eq_false (by omega)
    refine drvL Tryz.func45 ?_
    simp only [go_sem,rdr,hz]
    iterate 4 ((try (refine drvZ Tryz.func45 ?_;simp only [go_sem,rdr,hz]));((with_reducible and_intros)<;>try exact sd))
    exact hfin 67 _ _ _ (n+1) l bd _ (by omega) (by omega) rfl (by omega) (by omega) rfl rfl rfl rfl rfl rfl rfl (by decide)
  ·simp only [go_sem,TmOK,DM,DMs,CM,CMs,forall_eq,exists_eq_left,Mq,HpOK,LowOK,rdr]
   simp
   exact ⟨CMs.kf (kf_I _),CMs.kf (kf_I _),CMs.kf (stC_kf _)⟩
 ·cases bd with
  | nil =>
   have hz:((0:Int)<0)=False:=eq_false (by omega)
   iterate 9 ((try (refine drvZ Tryz.func45 ?_;simp only [go_sem,rdr,Int.natCast_zero,hz]));((with_reducible and_intros)<;>try exact sd))
   exact hfin 193 _ _ _ (n+1) vs [] _ (by first | omega | (simp;omega) | simp) (by first | omega | (simp;omega) | simp) rfl (by omega) (by omega) rfl rfl rfl rfl rfl rfl rfl (by decide)
  | cons s r =>
   obtain ⟨k,t,⟨ik,iv,iks⟩,⟨vk,vv,vks⟩,c,b,e⟩:=s
   have hb4:r.length+1≤4:=hb4
   have hz:((0:Int)<(r.length:Int)+1)=True:=eq_true (by omega)
   iterate 9 ((try (refine drvZ Tryz.func45 ?_;simp only [go_sem,rdr,hz,stC_cons]));((with_reducible and_intros)<;>try exact sd))
   refine XK.callG [0,1473] (hnum (n+1) [0,6,1,5,2] (by omega) (by decide) (by decide)) ok83 (hhp2 rfl rfl) (hbT ()) (fun d h' ⟨_,_,_,e⟩=>by subst e;simp) ?_ (fun _=>⟨by kernel_rfl,_,_,⟨1,rfl,by simp,rfl⟩,by simp⟩)
   rintro _ _ ⟨w,rfl,hw,rfl⟩ _
   clear hw
   iterate 5 ((try (refine drvZ Tryz.func45 ?_;simp only [go_sem,rdr,hz,stC_cons]));((with_reducible and_intros)<;>try exact sd))
   exact hfin 193 _ _ _ (n+2) vs ((.mk w t (.mk ik iv iks) (.mk vk vv vks) c b e) :: r) _ (by first | omega | (simp;omega) | simp) (by first | omega | (simp;omega) | simp) rfl (by omega) (by omega) rfl rfl rfl rfl rfl rfl rfl (by decide)
 ·match bd,hb4 with
  | [],hb4 =>
   have hz:((0:Int)<0)=False:=eq_false (by omega)
   iterate 9 ((try (refine drvZ Tryz.func45 ?_;simp only [go_sem,rdr,Int.natCast_zero,hz]));((with_reducible and_intros)<;>try exact sd))
   exact hfin 193 _ _ _ (n+1) vs [] _ (by first | omega | (simp;omega) | simp) (by first | omega | (simp;omega) | simp) rfl (by omega) (by omega) rfl rfl rfl rfl rfl rfl rfl (by decide)
  | [a],hb4 =>
   obtain ⟨k,t,⟨ik,iv,iks⟩,⟨vk,vv,vks⟩,c0,b0,e0⟩:=a
   iterate 9 ((try (refine drvZ Tryz.func45 ?_;simp only [go_sem,rdr,stC_cons,stC_nil,Int.reduceSub,Int.natCast_zero]));((with_reducible and_intros)<;>try exact sd))
   refine XK.callG [0,1729] (hnum (n+1) [-1,12,1,9223372036854775807] (by omega) (by decide) (by decide)) ok83 (hhp2 rfl rfl) (hbT ()) (fun d h' ⟨_,_,_,e⟩=>by subst e;simp) ?_ (fun _=>⟨by kernel_rfl,_,_,⟨1,rfl,by simp,rfl⟩,by simp⟩)
   rintro _ _ ⟨w,rfl,hw,rfl⟩ _
   clear hw
   iterate 5 ((try (refine drvZ Tryz.func45 ?_;simp only [go_sem,rdr,stC_cons,stC_nil,Int.reduceSub,Int.natCast_zero]));((with_reducible and_intros)<;>try exact sd))
   exact hfin 193 _ _ _ (n+2) vs [(.mk k w (.mk ik iv iks) (.mk vk vv vks) c0 b0 e0)] _ (by first | omega | (simp;omega) | simp) (by first | omega | (simp;omega) | simp) rfl (by omega) (by omega) rfl rfl rfl rfl rfl rfl rfl (by decide)
  | [a,b],hb4 =>
   obtain ⟨k,t,⟨ik,iv,iks⟩,⟨vk,vv,vks⟩,c0,b0,e0⟩:=b
   obtain ⟨ka,ta,⟨ika,iva,iksa⟩,⟨vka,vva,vksa⟩,ca,ba,ea⟩:=a
   iterate 9 ((try (refine drvZ Tryz.func45 ?_;simp only [go_sem,rdr,stC_cons,stC_nil,Int.reduceSub,Int.natCast_zero]));((with_reducible and_intros)<;>try exact sd))
   refine XK.callG [0,1729] (hnum (n+1) [-1,12,1,9223372036854775807] (by omega) (by decide) (by decide)) ok83 (hhp2 rfl rfl) (hbT ()) (fun d h' ⟨_,_,_,e⟩=>by subst e;simp) ?_ (fun _=>⟨by kernel_rfl,_,_,⟨1,rfl,by simp,rfl⟩,by simp⟩)
   rintro _ _ ⟨w,rfl,hw,rfl⟩ _
   clear hw
   iterate 5 ((try (refine drvZ Tryz.func45 ?_;simp only [go_sem,rdr,stC_cons,stC_nil,Int.reduceSub,Int.natCast_zero]));((with_reducible and_intros)<;>try exact sd))
   exact hfin 193 _ _ _ (n+2) vs [(.mk ka ta (.mk ika iva iksa) (.mk vka vva vksa) ca ba ea),(.mk k w (.mk ik iv iks) (.mk vk vv vks) c0 b0 e0)] _ (by first | omega | (simp;omega) | simp) (by first | omega | (simp;omega) | simp) rfl (by omega) (by omega) rfl rfl rfl rfl rfl rfl rfl (by decide)
  | [a,b,c],hb4 =>
   obtain ⟨k,t,⟨ik,iv,iks⟩,⟨vk,vv,vks⟩,c0,b0,e0⟩:=c
   obtain ⟨ka,ta,⟨ika,iva,iksa⟩,⟨vka,vva,vksa⟩,ca,ba,ea⟩:=a
   obtain ⟨kb,tb,⟨ikb,ivb,iksb⟩,⟨vkb,vvb,vksb⟩,cb,bb,eb⟩:=b
   iterate 9 ((try (refine drvZ Tryz.func45 ?_;simp only [go_sem,rdr,stC_cons,stC_nil,Int.reduceSub,Int.natCast_zero]));((with_reducible and_intros)<;>try exact sd))
   refine XK.callG [0,1729] (hnum (n+1) [-1,12,1,9223372036854775807] (by omega) (by decide) (by decide)) ok83 (hhp2 rfl rfl) (hbT ()) (fun d h' ⟨_,_,_,e⟩=>by subst e;simp) ?_ (fun _=>⟨by kernel_rfl,_,_,⟨1,rfl,by simp,rfl⟩,by simp⟩)
   rintro _ _ ⟨w,rfl,hw,rfl⟩ _
   clear hw
   iterate 5 ((try (refine drvZ Tryz.func45 ?_;simp only [go_sem,rdr,stC_cons,stC_nil,Int.reduceSub,Int.natCast_zero]));((with_reducible and_intros)<;>try exact sd))
   exact hfin 193 _ _ _ (n+2) vs [(.mk ka ta (.mk ika iva iksa) (.mk vka vva vksa) ca ba ea),(.mk kb tb (.mk ikb ivb iksb) (.mk vkb vvb vksb) cb bb eb),(.mk k w (.mk ik iv iks) (.mk vk vv vks) c0 b0 e0)] _ (by first | omega | (simp;omega) | simp) (by first | omega | (simp;omega) | simp) rfl (by omega) (by omega) rfl rfl rfl rfl rfl rfl rfl (by decide)
  | [a,b,c,d],hb4 =>
   obtain ⟨k,t,⟨ik,iv,iks⟩,⟨vk,vv,vks⟩,c0,b0,e0⟩:=d
   obtain ⟨ka,ta,⟨ika,iva,iksa⟩,⟨vka,vva,vksa⟩,ca,ba,ea⟩:=a
   obtain ⟨kb,tb,⟨ikb,ivb,iksb⟩,⟨vkb,vvb,vksb⟩,cb,bb,eb⟩:=b
   obtain ⟨kc,tc,⟨ikc,ivc,iksc⟩,⟨vkc,vvc,vksc⟩,cc,bc,ec⟩:=c
   iterate 9 ((try (refine drvZ Tryz.func45 ?_;simp only [go_sem,rdr,stC_cons,stC_nil,Int.reduceSub,Int.natCast_zero]));((with_reducible and_intros)<;>try exact sd))
   refine XK.callG [0,1729] (hnum (n+1) [-1,12,1,9223372036854775807] (by omega) (by decide) (by decide)) ok83 (hhp2 rfl rfl) (hbT ()) (fun d h' ⟨_,_,_,e⟩=>by subst e;simp) ?_ (fun _=>⟨by kernel_rfl,_,_,⟨1,rfl,by simp,rfl⟩,by simp⟩)
   rintro _ _ ⟨w,rfl,hw,rfl⟩ _
   clear hw
   iterate 5 ((try (refine drvZ Tryz.func45 ?_;simp only [go_sem,rdr,stC_cons,stC_nil,Int.reduceSub,Int.natCast_zero]));((with_reducible and_intros)<;>try exact sd))
   exact hfin 193 _ _ _ (n+2) vs [(.mk ka ta (.mk ika iva iksa) (.mk vka vva vksa) ca ba ea),(.mk kb tb (.mk ikb ivb iksb) (.mk vkb vvb vksb) cb bb eb),(.mk kc tc (.mk ikc ivc iksc) (.mk vkc vvc vksc) cc bc ec),(.mk k w (.mk ik iv iks) (.mk vk vv vks) c0 b0 e0)] _ (by first | omega | (simp;omega) | simp) (by first | omega | (simp;omega) | simp) rfl (by omega) (by omega) rfl rfl rfl rfl rfl rfl rfl (by decide)
 ·cases bd with
  | nil =>
   have hz:((0:Int)<0)=False:=eq_false (by omega)
   iterate 9 ((try (refine drvZ Tryz.func45 ?_;simp only [go_sem,rdr,Int.natCast_zero,hz]));((with_reducible and_intros)<;>try exact sd))
   exact hfin 193 _ _ _ (n+1) vs [] _ (by first | omega | (simp;omega) | simp) (by first | omega | (simp;omega) | simp) rfl (by omega) (by omega) rfl rfl rfl rfl rfl rfl rfl (by decide)
  | cons s r =>
   obtain ⟨k,t,⟨ik,iv,iks⟩,⟨vk,vv,vks⟩,c,b,e⟩:=s
   have hb4:r.length+1≤4:=hb4
   have hz:((0:Int)<(r.length:Int)+1)=True:=eq_true (by omega)
   iterate 9 ((try (refine drvZ Tryz.func45 ?_;simp only [go_sem,rdr,hz,stC_cons]));((with_reducible and_intros)<;>try exact sd))
   refine XK.callG [0,1729] (hnum (n+1) [-1,256,12,1] (by omega) (by decide) (by decide)) ok83 (hhp2 rfl rfl) (hbT ()) (fun d h' ⟨_,_,_,e⟩=>by subst e;simp) ?_ (fun _=>⟨by kernel_rfl,_,_,⟨1,rfl,by simp,rfl⟩,by simp⟩)
   rintro _ _ ⟨w,rfl,hw,rfl⟩ _
   clear hw
   iterate 5 ((try (refine drvZ Tryz.func45 ?_;simp only [go_sem,rdr,hz,stC_cons]));((with_reducible and_intros)<;>try exact sd))
   exact hfin 193 _ _ _ (n+2) vs ((.mk k t (.mk ik iv iks) (.mk vk w vks) c b e) :: r) _ (by first | omega | (simp;omega) | simp) (by first | omega | (simp;omega) | simp) rfl (by omega) (by omega) rfl rfl rfl rfl rfl rfl rfl (by decide)
 ·cases bd with
  | nil =>
   have hz:((0:Int)<0)=False:=eq_false (by omega)
   iterate 9 ((try (refine drvZ Tryz.func45 ?_;simp only [go_sem,rdr,Int.natCast_zero,hz]));((with_reducible and_intros)<;>try exact sd))
   exact hfin 193 _ _ _ (n+1) vs [] _ (by first | omega | (simp;omega) | simp) (by first | omega | (simp;omega) | simp) rfl (by omega) (by omega) rfl rfl rfl rfl rfl rfl rfl (by decide)
  | cons s r =>
   obtain ⟨k,t,⟨ik,iv,iks⟩,⟨vk,vv,vks⟩,c,b,e⟩:=s
   have hb4:r.length+1≤4:=hb4
   have hz:((0:Int)<(r.length:Int)+1)=True:=eq_true (by omega)
   iterate 9 ((try (refine drvZ Tryz.func45 ?_;simp only [go_sem,rdr,hz,stC_cons]));((with_reducible and_intros)<;>try exact sd))
   refine XK.callG [0,1857] (hnum (n+1) [1,4,-1,2] (by omega) (by decide) (by decide)) ok83 (hhp2 rfl rfl) (hbT ()) (fun d h' ⟨_,_,_,e⟩=>by subst e;simp) ?_ (fun _=>⟨by kernel_rfl,_,_,⟨1,rfl,by simp,rfl⟩,by simp⟩)
   rintro _ _ ⟨w,rfl,hw,rfl⟩ _
   clear hw
   iterate 5 ((try (refine drvZ Tryz.func45 ?_;simp only [go_sem,rdr,hz,stC_cons]));((with_reducible and_intros)<;>try exact sd))
   exact hfin 193 _ _ _ (n+2) vs ((.mk k t (.mk ik iv iks) (.mk vk vv vks) w b e) :: r) _ (by first | omega | (simp;omega) | simp) (by first | omega | (simp;omega) | simp) rfl (by omega) (by omega) rfl rfl rfl rfl rfl rfl rfl (by decide)
 ·iterate 8 ((try (refine drvZ Tryz.func45 ?_;simp only [go_sem,rdr]));((with_reducible and_intros)<;>try exact sd))
  refine RetOb.ofQ (fun j=>if j=0 then some 0 else none) [] (.agg (Pg.cells ⟨[],[],[]⟩)) [some (rdr bs ((n+1:Nat):Int))] ?_ ?_ (by simp)
  ·simp [enumL,hOf,DM,DMs,CM,CMs,HpOK,LowOK,upd,rdr,Pg.cells,isI,kf,St1.cellsL]
  ·rw [← hR];exact ⟨⟨[],[],[]⟩,rfl,⟨by simp,by simp,by simp,by simp⟩,n+1,by omega,by omega,rfl⟩
 ·have e0:(v == 0)=false:=by simp [h0]
  have e1:(v == 1)=false:=by simp [h1]
  have e2:(v == 2)=false:=by simp [h2]
  have e3:(v == 3)=false:=by simp [h3]
  have e4:(v == 4)=false:=by simp [h4]
  have e5:(v == 5)=false:=by simp [h5]
  have e6:(v == 6)=false:=by simp [h6]
  iterate 8 ((try (refine drvZ Tryz.func45 ?_;simp only [go_sem,rdr,h0,h1,h2,h3,h4,h5,h6,e0,e1,e2,e3,e4,e5,e6]));((with_reducible and_intros)<;>try exact sd))
  exact hfin 193 _ _ _ (n+1) vs bd _ (by omega) (by omega) rfl (by omega) (by omega) rfl rfl rfl rfl rfl rfl rfl (by decide)
theorem DC_imp {P:Program} {F:FuncId} {args:List D} {h:List (Option (List C))} {R1 R2:D→List (Option (List C))→Prop} (hD:DC P F args h R1) (hi:∀ d h',R1 d h'→R2 d h'):DC P F args h R2:=fun I w s vs H hv=>by
 refine (hD I w s vs H hv).mono ?_
 rintro e w' ⟨v,I',s',d,h',rfl,hR,g⟩
 exact ⟨v,I',s',d,h',rfl,hi _ _ hR,g⟩
theorem l2Mutate (bs:List Int) (n:Nat) (p:Pg) (hb:Fits .u8 bs) (hl:bs.length≤2000) (hn:n≤274877906944) (hp:DrP p):DC Tryz.prog 45 [.c (.ptr 0 0),.agg p.cells] [some (rdr bs n)] (muR bs n) :=
 DC_imp (l2MutateD 2 bs n p hb hl hn hp.nv hp.na hp.nb hp.sm) fun d h ⟨p,e,hq,hr⟩=>⟨p,e,hq.smP,hr⟩
theorem fits_take {k:IntKind} {bs:List Int} (h:Fits k bs) (n:Nat):Fits k (bs.take n):=fun x hx=>h x (List.mem_of_mem_take hx)
theorem renCs_rdr (r:Nat→Nat) (bs:List Int) (n:Int):renCs r (rdr bs n)=rdr bs n:=renCs_kf r _ (rdr_kf bs n)
theorem prog_len {p:Pg} (h:progOK p=true):1≤p.vars.length∧p.vars.length≤12∧p.arrays.length≤2:=by
 simp only [progOK,headsOK,Bool.and_eq_true,decide_eq_true_eq] at h
 obtain ⟨⟨⟨⟨⟨_,h1⟩,h2⟩,h3⟩,_⟩,_⟩:=h
 omega
end Go.Proofs.YtmjkgjkkpaephaaGreat.CtD
namespace Go.Proofs.YtmjkgjkkpaephaaGreat.CtR
open Go Go.CT CtF
theorem runP_of {p:Pg} {m:Mm} (h1:progOK p=true) (h2:memOK p.vars p.arrays m=true):runP p m=((runL 5 m p.body).1,(runL 5 m p.body).2,true):=runP_true (by rw [h1,h2];rfl)
def labB (vs ar:List Int) (k v:Int):Nat:=if k=2 then (nth vs v).toNat else if k=3 then (nth ar v).toNat else 0
def labN (vs ar : List Int) : Nat → Ex → Nat
 | 0,_=>0
 | d+1,.mk k v ks=>(ks.map (labN vs ar d)).foldl (fun a b=>a ||| b) (labB vs ar k v)
def lab3 (l:List Int):Prop:=∀ x ∈ l,0≤x∧x≤3
theorem or3 {a b:Nat} (ha:a≤3) (hb:b≤3):a ||| b≤3:=by
 have:=Nat.or_lt_two_pow (x:=a) (y:=b) (n:=2) (by omega) (by omega)
 omega
theorem nth_lab {l:List Int} (h:lab3 l) (v:Int):0≤nth l v∧nth l v≤3:=by
 unfold nth
 rw [List.getD_eq_getElem?_getD]
 cases hx:l[v.toNat]? with
 | none=>simp
 | some x=>simpa using h x (List.mem_of_getElem? hx)
theorem foldl_or3 : ∀ (l : List Nat) (a : Nat), a ≤ 3 → (∀ x ∈ l, x ≤ 3) → l.foldl (fun a b => a ||| b) a ≤ 3
 | [],a,h,_=>h
 | x :: r,a,h,h2=>foldl_or3 r _ (or3 h (h2 x (by simp))) fun y hy=>h2 y (by simp [hy])
theorem labN_le {vs ar : List Int} (h1 : lab3 vs) (h2 : lab3 ar) : ∀ (d : Nat) (e : Ex), labN vs ar d e ≤ 3
 | 0,_=>Nat.zero_le _
 | d+1,.mk k v ks=>by
  refine foldl_or3 _ _ ?_ fun x hx=>?_
  ·unfold labB
   have:=nth_lab h1 v
   have:=nth_lab h2 v
   split
   ·omega
   ·split<;>omega
  ·obtain ⟨y,_,rfl⟩:=List.mem_map.1 hx
   exact labN_le h1 h2 d y
theorem lab_succ (f:Ex→Nat) (a:Nat) (ks:List Ex) (i:Nat) (x:Ex) (h:ks[i]? = some x):((ks.take (i+1)).map f).foldl (fun a b=>a ||| b) a=((ks.take i).map f).foldl (fun a b=>a ||| b) a ||| f x:=by
 rw [List.take_add_one,h]
 simp
theorem labs_of {p:Pg} (h:progOK p=true):lab3 p.vars∧lab3 p.arrays:=by
 simp only [progOK,headsOK,labs,Bool.and_eq_true,decide_eq_true_eq,List.all_eq_true] at h
 exact ⟨fun x hx=>h.1.1.1.2 x hx,fun x hx=>h.1.1.2 x hx⟩
theorem labelI (p:Pg) (hl:p.vars.length≤mx) (hl2:p.arrays.length≤mx) (h1:lab3 p.vars) (h2:lab3 p.arrays):∀ (d:Nat) (e:Ex),shape p d e=true→DC Tryz.prog 91 [.agg p.cells,.agg e.cells] [] (fun r h=>r=DI .i64 (labN p.vars p.arrays d e)∧h=[]):=by
 have hmx:=mx_eq
 intro d
 induction d with
 | zero=>intro e h;simp [shape] at h
 | succ d ih =>
  intro e hsh
  obtain ⟨k,v,ks⟩:=e
  obtain ⟨g1,g2,g3⟩:=shape_succ hsh
  obtain ⟨hl3,hla,hv0,hv1⟩:=fits_len g1
  obtain ⟨vs,ar,bd⟩:=p
  have h1:lab3 vs:=h1
  have h2:lab3 ar:=h2
  generalize hR:(fun (r:D) (h:List (Option (List C)))=>r=DI .i64 (labN vs ar (d+1) (.mk k v ks))∧h=[])=R
  have hle:=fun e=>labN_le h1 h2 d e
  have hacc:∀ i,((ks.take i).map (labN vs ar d)).foldl (fun a b=>a ||| b) (labB vs ar k v)≤3:=fun i=>by
   have:=labN_le h1 h2 (d+1) (.mk k v (ks.take i))
   exact this
  have hlb:labB vs ar k v≤3:=hacc 0
  have key:k=2∨k=3∨(k ≠ 2∧k ≠ 3):=by omega
  rcases key with hk | hk | ⟨hk2,hk3⟩
  ·have hv1':v<vs.length:=by subst hk;simpa [limit] using hv1
   have hx:=(nth_mem (l:=vs) hv0 hv1').1
   have hB:((labB vs ar k v:Nat):Int)=nth vs v:=by have:=nth_lab h1 v;simp [labB,hk];omega
   have e2:(k == 2)=true:=by simp [hk]
   have e3:(k == 3)=false:=by simp [hk]
   have f2:(k=2)=True:=by simp [hk]
   have f3:(k=3)=False:=by simp [hk]
   refine dcZ Tryz.func91 ?_
   simp only [go_sem]
   iterate 4 ((try (refine drvZ Tryz.func91 ?_;simp only [go_sem,e2,e3,f2,f3,hx]));((with_reducible and_intros)<;>try exact sd))
   refine Go.loopQ (fun i : Nat => [(2, .c (.ptr 0 0)), (5, DI .i64 (((ks.take i).map (labN vs ar d)).foldl (fun a b => a ||| b) (labB vs ar k v) : Nat)), (27, .c (.isl 3 (Ex.cellsL ks))), (28, DI .i64 ks.length), (29, DI .i64 i)]) (fun i => [(0, some (Pg.cells ⟨vs, ar, bd⟩))])
    4096 (fun i=>i≤ks.length) (fun i=>ks.length - i) ?_ 0 some [] _ (Nat.zero_le _) ?_
   ·intro i hi again
    rcases Nat.lt_or_ge i ks.length with hlt | hge
    ·obtain ⟨⟨k',v',ks'⟩,hx⟩:∃ x,ks[i]? = some x:=⟨ks[i],by simp [hlt]⟩
     have hsc:=lab_succ (labN vs ar d) (labB vs ar k v) ks i _ hx
     have ha:=hacc i
     have hb:=hle (.mk k' v' ks')
     have hc:=hacc (i+1)
     rw [hsc] at hc
     generalize ((ks.take i).map (labN vs ar d)).foldl (fun a b=>a ||| b) (labB vs ar k v)=acc at *
     refine drvL Tryz.func91 ?_
     simp only [go_sem,hx,hlt]
     iterate 2 ((try (refine drvZ Tryz.func91 ?_;simp only [go_sem,hx,hlt]));((with_reducible and_intros)<;>try exact sd))
     refine XK.plain (ih (.mk k' v' ks') (g2 _ (List.mem_of_getElem? hx))) ok91 ?_ (hbT ())
     iterate 3 ((try (refine drvZ Tryz.func91 ?_;simp only [go_sem,hx,hlt]));((with_reducible and_intros)<;>try exact sd))
     refine again (i+1) some [] _ hlt (by omega) ?_
     simp only [go_sem,TmOK,DM,DMs,CM,CMs,forall_eq,exists_eq_left,Mq,HpOK,LowOK,hsc]
     simp
     rw [← List.map_take,hsc]
    ·have hn:¬ i<ks.length:=by omega
     obtain rfl:i=ks.length:=by omega
     refine drvL Tryz.func91 ?_
     simp only [go_sem,hn,List.take_length]
     iterate 2 ((try (refine drvZ Tryz.func91 ?_;simp only [go_sem,hn,List.take_length]));((with_reducible and_intros)<;>try exact sd))
     exact RetOb.plain (d:=DI .i64 _) (by rw [← hR];exact ⟨rfl,rfl⟩) rfl
   ·simp only [go_sem,TmOK,DM,DMs,CM,CMs,forall_eq,exists_eq_left,Mq,HpOK,LowOK,List.take_zero,List.map_nil,List.foldl_nil]
    simp [hB]
  ·have hv1':v<ar.length:=by subst hk;simpa [limit] using hv1
   have hx:=(nth_mem (l:=ar) hv0 hv1').1
   have hB:((labB vs ar k v:Nat):Int)=nth ar v:=by have:=nth_lab h2 v;simp [labB,hk];omega
   have e2:(k == 2)=false:=by simp [hk]
   have e3:(k == 3)=true:=by simp [hk]
   have f2:(k=2)=False:=by simp [hk]
   have f3:(k=3)=True:=by simp [hk]
   refine dcZ Tryz.func91 ?_
   simp only [go_sem]
   iterate 4 ((try (refine drvZ Tryz.func91 ?_;simp only [go_sem,e2,e3,f2,f3,hx]));((with_reducible and_intros)<;>try exact sd))
   refine Go.loopQ (fun i : Nat => [(2, .c (.ptr 0 0)), (5, DI .i64 (((ks.take i).map (labN vs ar d)).foldl (fun a b => a ||| b) (labB vs ar k v) : Nat)), (27, .c (.isl 3 (Ex.cellsL ks))), (28, DI .i64 ks.length), (29, DI .i64 i)]) (fun i => [(0, some (Pg.cells ⟨vs, ar, bd⟩))])
    4096 (fun i=>i≤ks.length) (fun i=>ks.length - i) ?_ 0 some [] _ (Nat.zero_le _) ?_
   ·intro i hi again
    rcases Nat.lt_or_ge i ks.length with hlt | hge
    ·obtain ⟨⟨k',v',ks'⟩,hx⟩:∃ x,ks[i]? = some x:=⟨ks[i],by simp [hlt]⟩
     have hsc:=lab_succ (labN vs ar d) (labB vs ar k v) ks i _ hx
     have ha:=hacc i
     have hb:=hle (.mk k' v' ks')
     have hc:=hacc (i+1)
     rw [hsc] at hc
     generalize ((ks.take i).map (labN vs ar d)).foldl (fun a b=>a ||| b) (labB vs ar k v)=acc at *
     refine drvL Tryz.func91 ?_
     simp only [go_sem,hx,hlt]
     iterate 2 ((try (refine drvZ Tryz.func91 ?_;simp only [go_sem,hx,hlt]));((with_reducible and_intros)<;>try exact sd))
     refine XK.plain (ih (.mk k' v' ks') (g2 _ (List.mem_of_getElem? hx))) ok91 ?_ (hbT ())
     iterate 3 ((try (refine drvZ Tryz.func91 ?_;simp only [go_sem,hx,hlt]));((with_reducible and_intros)<;>try exact sd))
     refine again (i+1) some [] _ hlt (by omega) ?_
     simp only [go_sem,TmOK,DM,DMs,CM,CMs,forall_eq,exists_eq_left,Mq,HpOK,LowOK,hsc]
     simp
     rw [← List.map_take,hsc]
    ·have hn:¬ i<ks.length:=by omega
     obtain rfl:i=ks.length:=by omega
     refine drvL Tryz.func91 ?_
     simp only [go_sem,hn,List.take_length]
     iterate 2 ((try (refine drvZ Tryz.func91 ?_;simp only [go_sem,hn,List.take_length]));((with_reducible and_intros)<;>try exact sd))
     exact RetOb.plain (d:=DI .i64 _) (by rw [← hR];exact ⟨rfl,rfl⟩) rfl
   ·simp only [go_sem,TmOK,DM,DMs,CM,CMs,forall_eq,exists_eq_left,Mq,HpOK,LowOK,List.take_zero,List.map_nil,List.foldl_nil]
    simp [hB]
  ·have hB:labB vs ar k v=0:=by simp [labB,hk2,hk3]
   have e2:(k == 2)=false:=by simp [hk2]
   have e3:(k == 3)=false:=by simp [hk3]
   refine dcZ Tryz.func91 ?_
   simp only [go_sem]
   iterate 4 ((try (refine drvZ Tryz.func91 ?_;simp only [go_sem,e2,e3,hk2,hk3]));((with_reducible and_intros)<;>try exact sd))
   refine Go.loopQ (fun i : Nat => [(2, .c (.ptr 0 0)), (5, DI .i64 (((ks.take i).map (labN vs ar d)).foldl (fun a b => a ||| b) (labB vs ar k v) : Nat)), (27, .c (.isl 3 (Ex.cellsL ks))), (28, DI .i64 ks.length), (29, DI .i64 i)]) (fun i => [(0, some (Pg.cells ⟨vs, ar, bd⟩))])
    4096 (fun i=>i≤ks.length) (fun i=>ks.length - i) ?_ 0 some [] _ (Nat.zero_le _) ?_
   ·intro i hi again
    rcases Nat.lt_or_ge i ks.length with hlt | hge
    ·obtain ⟨⟨k',v',ks'⟩,hx⟩:∃ x,ks[i]? = some x:=⟨ks[i],by simp [hlt]⟩
     have hsc:=lab_succ (labN vs ar d) (labB vs ar k v) ks i _ hx
     have ha:=hacc i
     have hb:=hle (.mk k' v' ks')
     have hc:=hacc (i+1)
     rw [hsc] at hc
     generalize ((ks.take i).map (labN vs ar d)).foldl (fun a b=>a ||| b) (labB vs ar k v)=acc at *
     refine drvL Tryz.func91 ?_
     simp only [go_sem,hx,hlt]
     iterate 2 ((try (refine drvZ Tryz.func91 ?_;simp only [go_sem,hx,hlt]));((with_reducible and_intros)<;>try exact sd))
     refine XK.plain (ih (.mk k' v' ks') (g2 _ (List.mem_of_getElem? hx))) ok91 ?_ (hbT ())
     iterate 3 ((try (refine drvZ Tryz.func91 ?_;simp only [go_sem,hx,hlt]));((with_reducible and_intros)<;>try exact sd))
     refine again (i+1) some [] _ hlt (by omega) ?_
     simp only [go_sem,TmOK,DM,DMs,CM,CMs,forall_eq,exists_eq_left,Mq,HpOK,LowOK,hsc]
     simp
     rw [← List.map_take,hsc]
    ·have hn:¬ i<ks.length:=by omega
     obtain rfl:i=ks.length:=by omega
     refine drvL Tryz.func91 ?_
     simp only [go_sem,hn,List.take_length]
     iterate 2 ((try (refine drvZ Tryz.func91 ?_;simp only [go_sem,hn,List.take_length]));((with_reducible and_intros)<;>try exact sd))
     exact RetOb.plain (d:=DI .i64 _) (by rw [← hR];exact ⟨rfl,rfl⟩) rfl
   ·simp only [go_sem,TmOK,DM,DMs,CM,CMs,forall_eq,exists_eq_left,Mq,HpOK,LowOK,List.take_zero,List.map_nil,List.foldl_nil]
    simp [hB]
def ctxI (vs ar:List Int) (s:St1) (c:Nat):Nat:=if s.kind=3 then c ||| labN vs ar 5 s.value else c
def eachF {X : Type} (vs ar : List Int) (step : X → St1 → Nat → X) : Nat → Nat → X → List St1 → X
 | 0,_,x,_=>x
 | d+1,c,x,l=>l.foldl (fun x s=>eachF vs ar step d (ctxI vs ar s c) (eachF vs ar step d (ctxI vs ar s c) (step x s c) s.body) s.els) x
theorem RetOb.two {R:D→List (Option (List C))→Prop} {a b:Int} {hp:Hp} (h:R (.tup [DI .i64 a,DI .i64 b]) []):RetOb 0 R (.tup [DI .i64 a,DI .i64 b]) hp :=
 RetOb.ofQ (fun _=>none) [] (.tup [DI .i64 a,DI .i64 b]) [] (by simp [enumL,DM,DMs,CM,HpOK,LowOK]) h (by simp)
theorem prog_len2 {p:Pg} (h:progOK p=true):1≤p.vars.length∧p.vars.length≤12∧p.arrays.length≤2:=by
 simp only [progOK,headsOK,Bool.and_eq_true,decide_eq_true_eq] at h
 obtain ⟨⟨⟨⟨⟨_,h1⟩,h2⟩,h3⟩,_⟩,_⟩:=h
 omega
theorem hhp_each1 {hp : Hp} {r : Nat → Nat} {h0 : Option (List C)} (e0 : hp 0 = some (h0.map (renCs r))) :
 ∀ i' x,[h0][i']? = some x→hp ([0].getD i' 0)=some (x.map (renCs r)):=by
 intro i' x hx
 match i',hx with
 | 0,hx=>simp only [List.getElem?_cons_zero,List.getElem?_cons_succ,Option.some.injEq] at hx;subst hx;exact e0
 | i' + 1,hx=>simp at hx
theorem rkid_each1 (b:Nat):∀ k,k<1→rk0 [0] b k=k:=fun k hk=>by
 match k,hk with
 | 0,_=>rfl
theorem rkey_each1 (b:Nat):∀ k,k<1→rkey [0] b k=k:=fun k hk=>by
 match k,hk with
 | 0,_=>rfl
theorem each1 {X : Type} (p : Pg) (hl : p.vars.length ≤ mx) (hl2 : p.arrays.length ≤ mx) (h1 : lab3 p.vars) (h2 : lab3 p.arrays) (F : FuncId) (hF : fnOK Tryz.prog F = true)
 (b0:X→List C) (hr0:∀ x r,(∀ k,k<1→r k=k)→renCs r (b0 x)=b0 x) (hc0:∀ x hT hS fz,(∀ k,k<1→hT k ≠ none)→CMs hT some hS fz (b0 x) (b0 x)) (step:X→St1→Nat→X) (Inv:Nat→X→Prop)
 (hcl:∀ d x s (c q:Nat),q<1000→Inv q x→c≤3→stmtOK p d s=true→Inv (q+1) (step x s c)∧DC Tryz.prog F [.agg s.cells,DI .i64 c,.c (.ptr 0 0)] [some (b0 x)] (fun r h=>r = .tup []∧h=[some (b0 (step x s c))])) :
 ∀ (d:Nat) (l:List St1) (x:X) (c q:Nat),Inv q x→c≤3→(∀ s ∈ l,stmtOK p d s=true)→q+lsize d l≤1000 →
  Inv (q+lsize d l) (eachF p.vars p.arrays step d c x l)∧DC Tryz.prog 54 [.agg p.cells,.c (.isl 11 (St1.cellsL l)),DI .i64 c,.c (.clo F [.ptr 0 0])] [some (b0 x)] (fun r h=>r = .tup []∧h=[some (b0 (eachF p.vars p.arrays step d c x l))]):=by
 have hmx:=mx_eq
 intro d
 induction d with
 | zero =>
  intro l x c q hx hc hok hsz
  have hnil:l=[]:=by
   cases l with
   | nil=>rfl
   | cons a r=>have:=hok a (by simp);simp [stmtOK] at this
  subst hnil
  refine ⟨by rw [lsize_zero];exact hx,?_⟩
  obtain ⟨vs,ar,bd⟩:=p
  simp only [eachF]
  generalize hR:(fun (r:D) (h:List (Option (List C)))=>r = .tup []∧h=[some (b0 x)])=R
  refine dcZ Tryz.func54 ?_
  simp only [go_sem,St1.cellsL,Int.natCast_zero]
  refine Go.loop ?_
  have hz:((0:Int)<0)=False:=eq_false (by omega)
  refine drvL Tryz.func54 ?_
  simp only [go_sem,St1.cellsL,Int.natCast_zero,hz]
  refine RetOb.ofQ some [] (.tup []) [some (b0 x)] ?_ (by rw [← hR];exact ⟨rfl,rfl⟩) (by simp)
  simp [enumL,DMs,DM,HpOK,LowOK,hOf,upd,hpL]
  refine hc0 _ _ _ _ ?_
  all_goals (intro k hk;rcases (show k=0 by omega) with rfl<;>simp [upd])
 | succ d ih =>
  intro l x c q hx hc hok hsz
  have hsub:=lsize_subs d l
  have hll:l.length≤1000:=by omega
  let f:X→St1→X:=fun x s=>eachF p.vars p.arrays step d (ctxI p.vars p.arrays s c) (eachF p.vars p.arrays step d (ctxI p.vars p.arrays s c) (step x s c) s.body) s.els
  have hfold:∀ i s,l[i]? = some s→(l.take (i+1)).foldl f x=f ((l.take i).foldl f x) s:=fun i s h=>by
   rw [List.take_add_one,h];simp
  have hres:eachF p.vars p.arrays step (d+1) c x l=l.foldl f x:=rfl
  have hf:∀ (x:X) (s:St1),f x s=eachF p.vars p.arrays step d (ctxI p.vars p.arrays s c) (eachF p.vars p.arrays step d (ctxI p.vars p.arrays s c) (step x s c) s.body) s.els:=fun _ _=>rfl
  clear_value f
  have hlabI:=fun e=>labelI p hl hl2 h1 h2 5 e
  have hlabL:=fun e=>labN_le h1 h2 5 e
  have e0:∀ y b,renCs (rkey [0] b) (b0 y)=b0 y:=fun y b=>hr0 y _ (rkey_each1 b)
  generalize hR:(fun (r:D) (h:List (Option (List C)))=>r = .tup []∧h=[some (b0 (eachF p.vars p.arrays step (d+1) c x l))])=R
  rw [hres] at hR
  rw [hres]
  have hK:∀ (i:Nat) (s:St1),l[i]? = some s→q+tsum (tsize (d+1)) l i+1+lsize d s.body+lsize d s.els≤1000∧tsum (tsize (d+1)) l (i+1)=tsum (tsize (d+1)) l i+1+lsize d s.body+lsize d s.els:=fun i s hi=>by
   have a1:=tsum_succ (tsize (d+1)) l i s hi
   have a2:=tsum_le (tsize (d+1)) l (i+1)
   have a3:=tsize_subs d s
   have a4:lsize (d+1) l=(l.map (tsize (d+1))).sum:=rfl
   simp only [subs] at a3
   omega
  have hround:∀ (i:Nat) (s:St1),l[i]? = some s→∀ y,Inv (q+tsum (tsize (d+1)) l i) y→ctxI p.vars p.arrays s c≤3 ∧
   (Inv (q+tsum (tsize (d+1)) l i+1) (step y s c)∧DC Tryz.prog F [.agg s.cells,DI .i64 c,.c (.ptr 0 0)] [some (b0 y)] (fun r h=>r = .tup []∧h=[some (b0 (step y s c))])):=fun i s hi y hy=>by
   have hmem:=List.mem_of_getElem? hi
   have:=(hK i s hi).1
   refine ⟨?_,hcl (d+1) y s c _ (by omega) hy hc (hok s hmem)⟩
   unfold ctxI
   split
   ·exact or3 hc (hlabL _)
   ·exact hc
  have hsok:∀ (i:Nat) (s:St1),l[i]? = some s→(∀ t ∈ s.body,stmtOK p d t=true)∧(∀ t ∈ s.els,stmtOK p d t=true)∧(s.kind=3→shape p 5 s.value=true):=fun i s hi=>by
   have hs:=hok s (List.mem_of_getElem? hi)
   obtain ⟨k,t,ix,v,cc,b,e⟩:=s
   obtain ⟨g1,g2,g3⟩:=stmtOK_succ hs
   refine ⟨g2,g3,fun hk=>?_⟩
   have hk:k=3:=hk
   subst hk
   rcases head_kind g1 with h | h | h | h
   ·omega
   ·omega
   ·exact (right_shape h.2).1
   ·omega
  have hinv:∀ i,i≤l.length→Inv (q+tsum (tsize (d+1)) l i) ((l.take i).foldl f x):=fun i=>by
   induction i with
   | zero=>intro _;simpa [tsum] using hx
   | succ i ihi =>
    intro hi
    have hs:l[i]? = some l[i]:=by simp [show i<l.length from hi]
    rw [hfold i _ hs,hf,(hK i _ hs).2]
    have hk:=(hK i _ hs).1
    have g:=hround i _ hs _ (ihi (by omega))
    have g2:=hsok i _ hs
    have b1:=(ih _ _ _ _ g.2.1 g.1 g2.1 (by omega)).1
    have b2:=(ih _ _ _ _ b1 g.1 g2.2.1 (by omega)).1
    have e:q+(tsum (tsize (d+1)) l i+1+lsize d l[i].body+lsize d l[i].els)=q+tsum (tsize (d+1)) l i+1+lsize d l[i].body+lsize d l[i].els:=by omega
    rw [e]
    exact b2
  refine ⟨by have:=hinv l.length (Nat.le_refl _);rw [List.take_length] at this;rw [tsum_all _ _ (Nat.le_refl _)] at this;exact this,?_⟩
  obtain ⟨vs,ar,bd⟩:=p
  have h1:lab3 vs:=h1
  have h2:lab3 ar:=h2
  refine dcZ Tryz.func54 ?_
  simp only [go_sem]
  refine Go.loopQ (fun i : Nat => [(2, DI .i64 c), (3, .c (.clo F [.ptr 0 0])), (4, .c (.ptr 1 0)), (11, .c (.isl 11 (St1.cellsL l))), (12, DI .i64 l.length), (13, DI .i64 i)])
   (fun i=>[(0,some (b0 ((l.take i).foldl f x))),(1,some (Pg.cells ⟨vs,ar,bd⟩))]) 4096 (fun i=>i≤l.length) (fun i=>l.length - i) ?_ 0 some [] _ (Nat.zero_le _) ?_
  ·intro i hi again
   have hIi:=hinv i hi
   rcases Nat.lt_or_ge i l.length with hlt | hge
   ·obtain ⟨⟨k,t,⟨ik,iv,iks⟩,⟨vk,vv,vks⟩,cc,b,e⟩,hs⟩:∃ s,l[i]? = some s:=⟨l[i],by simp [hlt]⟩
    have hfi:=hfold i _ hs
    obtain ⟨q1,q4,q5⟩:=hround i _ hs _ hIi
    obtain ⟨q6,q7,q8⟩:=hsok i _ hs
    have hk:=(hK i _ hs).1
    simp only [St1.body,St1.els] at hk
    have ihb:=ih b _ _ _ q4 q1 q6 (by omega)
    have ihe:=ih e _ _ _ ihb.1 q1 q7 (by omega)
    have ihb2:=ihb.2
    have ihe2:=ihe.2
    have hll2:=hlabL (.mk vk vv vks)
    rw [hf] at hfi
    generalize (l.take i).foldl f x=y at *
    refine drvL Tryz.func54 ?_
    simp only [go_sem,hs,hlt]
    iterate 2 ((try (refine drvZ Tryz.func54 ?_;simp only [go_sem,hs,hlt]));((with_reducible and_intros)<;>try exact sd))
    refine XK.callG [0] q5 hF (hhp_each1 (by rw [Option.map_some,hr0 _ _ (rkid_each1 _)];rfl)) (hbT ()) (fun d h' ⟨_,e⟩=>by subst e;simp) ?_
    rintro _ _ ⟨rfl,rfl⟩ _
    by_cases hk:k=3
    ·subst hk
     have hlb:=hlabI (.mk vk vv vks) (q8 rfl)
     have hcx:ctxI vs ar (.mk 3 t (.mk ik iv iks) (.mk vk vv vks) cc b e) c=c ||| labN vs ar 5 (.mk vk vv vks):=by simp [ctxI,St1.kind,St1.value]
     iterate 4 ((try (refine drvZ Tryz.func54 ?_;simp only [go_sem,hs,hlt,e0]));((with_reducible and_intros)<;>try exact sd))
     refine XK.plain hlb ok91 ?_ (hbT ())
     rw [hcx] at ihb2 ihe2 hfi q1
     generalize labN vs ar 5 (.mk vk vv vks)=lb at *
     iterate 4 ((try (refine drvZ Tryz.func54 ?_;simp only [go_sem,hs,hlt,e0]));((with_reducible and_intros)<;>try exact sd))
     refine XK.callG [0] ihb2 ok54 (hhp_each1 (by rw [Option.map_some,hr0 _ _ (rkid_each1 _)];rfl)) (hbT ()) (fun d h' ⟨_,e⟩=>by subst e;simp) ?_
     rintro _ _ ⟨rfl,rfl⟩ _
     iterate 4 ((try (refine drvZ Tryz.func54 ?_;simp only [go_sem,hs,hlt,e0]));((with_reducible and_intros)<;>try exact sd))
     refine XK.callG [0] ihe2 ok54 (hhp_each1 (by rw [Option.map_some,hr0 _ _ (rkid_each1 _)];rfl)) (hbT ()) (fun d h' ⟨_,e⟩=>by subst e;simp) ?_
     rintro _ _ ⟨rfl,rfl⟩ _
     iterate 4 ((try (refine drvZ Tryz.func54 ?_;simp only [go_sem,hs,hlt,e0]));((with_reducible and_intros)<;>try exact sd))
     refine again (i+1) some [] _ hlt (by omega) ?_
     simp only [go_sem,TmOK,DM,DMs,CM,CMs,forall_eq,exists_eq_left,Mq,HpOK,LowOK,hfi]
     simp
     refine hc0 _ _ _ _ ?_
     all_goals (intro k hk;rcases (show k=0 by omega) with rfl<;>simp [upd])
    ·have hkb:(k == 3)=false:=by simp [hk]
     have hcx:ctxI vs ar (.mk k t (.mk ik iv iks) (.mk vk vv vks) cc b e) c=c:=by simp [ctxI,St1.kind,hk]
     rw [hcx] at ihb2 ihe2 hfi
     iterate 4 ((try (refine drvZ Tryz.func54 ?_;simp only [go_sem,hs,hlt,e0,hk,hkb]));((with_reducible and_intros)<;>try exact sd))
     refine XK.callG [0] ihb2 ok54 (hhp_each1 (by rw [Option.map_some,hr0 _ _ (rkid_each1 _)];rfl)) (hbT ()) (fun d h' ⟨_,e⟩=>by subst e;simp) ?_
     rintro _ _ ⟨rfl,rfl⟩ _
     iterate 4 ((try (refine drvZ Tryz.func54 ?_;simp only [go_sem,hs,hlt,e0]));((with_reducible and_intros)<;>try exact sd))
     refine XK.callG [0] ihe2 ok54 (hhp_each1 (by rw [Option.map_some,hr0 _ _ (rkid_each1 _)];rfl)) (hbT ()) (fun d h' ⟨_,e⟩=>by subst e;simp) ?_
     rintro _ _ ⟨rfl,rfl⟩ _
     iterate 4 ((try (refine drvZ Tryz.func54 ?_;simp only [go_sem,hs,hlt,e0]));((with_reducible and_intros)<;>try exact sd))
     refine again (i+1) some [] _ hlt (by omega) ?_
     simp only [go_sem,TmOK,DM,DMs,CM,CMs,forall_eq,exists_eq_left,Mq,HpOK,LowOK,hfi]
     simp
     refine hc0 _ _ _ _ ?_
     all_goals (intro k hk;rcases (show k=0 by omega) with rfl<;>simp [upd])
   ·have hn:¬ i<l.length:=by omega
    obtain rfl:i=l.length:=by omega
    refine drvL Tryz.func54 ?_
    simp only [go_sem,hn,List.take_length]
    iterate 2 ((try (refine drvZ Tryz.func54 ?_;simp only [go_sem,hn,List.take_length]));((with_reducible and_intros)<;>try exact sd))
    refine RetOb.ofQ some [] (.tup []) [some (b0 (l.foldl f x))] ?_ (by rw [← hR];exact ⟨rfl,rfl⟩) (by simp)
    simp [enumL,DMs,DM,HpOK,LowOK,hOf,upd,hpL]
    refine hc0 _ _ _ _ ?_
    all_goals (intro k hk;rcases (show k=0 by omega) with rfl<;>simp [upd])
  ·simp only [go_sem,TmOK,DM,DMs,CM,CMs,forall_eq,exists_eq_left,Mq,HpOK,LowOK,List.take_zero,List.foldl_nil]
   simp
   refine hc0 _ _ _ _ ?_
   all_goals (intro k hk;rcases (show k=0 by omega) with rfl<;>simp [upd])
end Go.Proofs.YtmjkgjkkpaephaaGreat.CtR
namespace Go.Proofs.YtmjkgjkkpaephaaGreat.CtD
open Go Go.CT CtF CtR
theorem none0_eq {e:Ex} (h:none0 e=true):e = .mk 0 0 []:=by
 obtain ⟨k,v,ks⟩:=e
 simp only [none0,Ex.kind,Ex.value,Ex.kids,Bool.and_eq_true,beq_iff_eq,decide_eq_true_eq] at h
 obtain ⟨⟨rfl,rfl⟩,h3⟩:=h
 have:ks=[]:=List.isEmpty_iff.1 h3
 rw [this]
theorem exprs_of {p : Pg} {d : Nat} {k t : Int} {ix v : Ex} {c : Int} {b e : List St1} (h : stmtOK p (d + 1) (.mk k t ix v c b e) = true) :
 (CtR.shape p 5 ix=true∨ix = .mk 0 0 [])∧(CtR.shape p 5 v=true∨v = .mk 0 0 []):=by
 have h1:=(stmtOK_succ h).1
 have hk:=head_kind h1
 unfold headOK parts at h1
 rcases hk with ⟨hk,_,_,hr⟩ | ⟨rfl,_,_,hr,_,hr2⟩ | ⟨rfl,hr⟩ | ⟨rfl,_⟩
 ·refine ⟨.inr (none0_eq ?_),.inl (right_shape hr).1⟩
  have hk4:k ≠ 4:=by omega
  have hk2:(k == 2)=false:=by simp;omega
  simp [hk4,hk2] at h1
  exact h1.1.2.2
 ·exact ⟨.inl (right_shape hr).1,.inl (right_shape hr2).1⟩
 ·refine ⟨.inr (none0_eq ?_),.inl (right_shape hr).1⟩
  simp at h1
  exact h1.1.2.2
 ·simp at h1
  refine ⟨.inr (none0_eq ?_),.inr (none0_eq ?_)⟩<;>grind
theorem val_none {p:Pg} {d:Nat} {t:Int} {ix v:Ex} {c:Int} {b e:List St1} (h:stmtOK p (d+1) (.mk 4 t ix v c b e)=true):ix = .mk 0 0 []∧v = .mk 0 0 []:=by
 have h1:=(stmtOK_succ h).1
 unfold headOK parts at h1
 simp at h1
 exact ⟨none0_eq (by grind),none0_eq (by grind)⟩
end Go.Proofs.YtmjkgjkkpaephaaGreat.CtD
namespace Go.Proofs.YtmjkgjkkpaephaaGreat.CtR
end Go.Proofs.YtmjkgjkkpaephaaGreat.CtR
namespace Go.Proofs.YtmjkgjkkpaephaaGreat.CtD
open Go Go.CT CtF CtR
theorem len0 {l:List St1} (h:¬ 0<l.length):l=[]:=List.eq_nil_of_length_eq_zero (by omega)
end Go.Proofs.YtmjkgjkkpaephaaGreat.CtD
