/- Contracts of functions of the program, one behind the other, as plain data: what each call returns and which blocks it leaves. -/
import Derived.Test.YtbknljofedfpjaaGreatYFacts
import Derived.Test.YtbknljofedfpjaaGreatYAi
import Derived.Test.YtbknljofedfpjaaGreatYAk
import Derived.Test.YtbknljofedfpjaaGreatYAm
import Derived.Test.YtbknljofedfpjaaGreatYAo
import Derived.Test.YtbknljofedfpjaaGreatYAp
import Derived.Test.YtbknljofedfpjaaGreatYAl
import Derived.Test.YtbknljofedfpjaaGreatYAn
set_option linter.unusedVariables false
set_option linter.unusedSimpArgs false
set_option linter.unusedSectionVars false
set_option maxHeartbeats 16000000
set_option maxRecDepth 100000
namespace Go.Proofs.YtbknljofedfpjaaGreat.CtD
open Go Go.CT CtF CtR
variable [Yn]
def meR (bs:List Int) (n:Nat) (p:Pg) (r:D) (h:List (Option (List C))):Prop:=∃ m:Mm,r = .agg m.cells∧MemFits p m∧rdL bs n 30 h
theorem a_snoc (l:List (List Int)) (x:List Int):(l++[x]).map isI=l.map isI++[isI x]:=by simp
theorem hdF (l:List (List Int)):(l.map fun a=>[isI a]).flatten=l.map isI:=flat1 _ l
theorem rI (l:List Int) (x:Int) (h:∀ y ∈ l,0≤y∧y≤255) (h2:0≤x∧x≤255):∀ y ∈ l++[x],0≤y∧y≤255:=fun y hy=>by
 rcases List.mem_append.1 hy with h3 | h3
 ·exact h y h3
 ·rw [List.mem_singleton.1 h3];exact h2
theorem l3Memory (bs:List Int) (n:Nat) (p:Pg) (hb:Fits .u8 bs) (hl:bs.length≤2000) (hn:n≤274877906944) (hp:1≤p.vars.length∧p.vars.length≤12) (hp2:p.arrays.length≤2):DC Tryz.prog 30 [.c (.ptr 0 0),.agg p.cells] [some (rdr bs n)] (meR bs n p):=by
 have hmx:=mx_eq
 have hval:=fun n h=>l3Value bs n hb hl h
 generalize hR:meR bs n p=R
 obtain ⟨vs,ar,bd⟩:=p
 have hp:1≤vs.length∧vs.length≤12:=hp
 have hp2:ar.length≤2:=hp2
 refine dcZ Tryz.func30 ?_
 simp only [go_sem,rdr]
 ((try (refine drvZ Tryz.func30 ?_;simp only [go_sem,rdr]));((with_reducible and_intros)<;>try exact sd))
 refine Go.loopQ (fun x : Nat × List Int => [(0, .c (.ptr 0 0)), (3, .c (.ptr 1 0)), (4, .c (.ptr 65 0)), (5, .c (.ptr 66 0)), (6, DI .i64 x.2.length)])
  (fun x=>[(0,some (rdr bs x.1)),(1,some (Pg.cells ⟨vs,ar,bd⟩)),(65,some [.v (.slice none 0 0),.v (.slice none 0 0)]),(66,some [.msl 67 1 0 x.2.length,.v (.slice none 0 0)]),(67,some (x.2.map I64))])
  4096 (fun x=>x.2.length≤vs.length∧n≤x.1∧x.1≤n+x.2.length∧∀ y ∈ x.2,0≤y∧y≤255) (fun x=>vs.length - x.2.length) ?_ (n,[]) (fun j=>if j=66 then some 193 else if j=67 then none else some j) [] _ (by simp) ?_
 ·rintro ⟨pos,l⟩ ⟨hi1,hi2,hi3,hi4⟩ again
  simp only at hi1 hi2 hi3 hi4
  rcases Nat.lt_or_ge l.length vs.length with hlt | hge
  ·refine drvL Tryz.func30 ?_
   simp only [go_sem,rdr,hlt]
   iterate 3 ((try (refine drvZ Tryz.func30 ?_;simp only [go_sem,rdr]));((with_reducible and_intros)<;>try exact sd))
   refine XK.callG [0] (hval pos (by omega)) ok87 (hhp_one rfl) (hbT ()) (fun d h' ⟨_,_,_,_,_,_,e⟩=>by subst e;simp) ?_ (fun _=>⟨by kernel_rfl,_,_,⟨0,rfl,by omega,pos,by omega,by omega,rfl⟩,by simp⟩)
   rintro _ _ ⟨v,rfl,hv,pos',hp1,hp3,rfl⟩ _
   iterate 4 ((try (refine drvZ Tryz.func30 ?_;simp only [go_sem,rdr]));((with_reducible and_intros)<;>try exact sd))
   refine again (pos',l++[v]) (fun j=>if j=67 then some 4736 else some j) [] _ ⟨by simp;omega,by omega,by simp;omega,rI l v hi4 hv⟩ (by simp;omega) ?_
   simp only [go_sem,TmOK,DM,DMs,CM,CMs,forall_eq,exists_eq_left,Mq,HpOK,LowOK,rdr,i_snoc]
   simp
   exact CMs.kf (kf_app (kf_I _) (by simp [kf]))
  ·have hnl:¬ l.length<vs.length:=by omega
   refine drvL Tryz.func30 ?_
   simp only [go_sem,rdr,hnl]
   iterate 3 ((try (refine drvZ Tryz.func30 ?_;simp only [go_sem,rdr]));((with_reducible and_intros)<;>try exact sd))
   refine Go.loopQ (fun x : Nat × List (List Int) => [(0, .c (.ptr 0 0)), (3, .c (.ptr 1 0)), (4, .c (.ptr 65 0)), (5, .c (.ptr 66 0)), (7, DI .i64 x.2.length)])
    (fun x=>[(0,some (rdr bs x.1)),(1,some (Pg.cells ⟨vs,ar,bd⟩)),(65,some [.v (.slice none 0 0),.v (.slice none 0 0)]),(66,some [isI l,.msl 68 1 0 x.2.length]),(68,some (x.2.map isI))])
    8192 (fun x=>x.2.length≤ar.length∧n≤x.1∧x.1≤n+l.length+4 * x.2.length∧∀ a ∈ x.2,a.length=4∧∀ y ∈ a,0≤y∧y≤255) (fun x=>ar.length - x.2.length) ?_ (pos,[]) (fun j=>if j=68 then none else some j) [67] _ (by simp;omega) ?_
   ·clear again
    rintro ⟨pos,arrs⟩ ⟨hj1,hj2,hj3,hj4⟩ again
    simp only at hj1 hj2 hj3 hj4
    rcases Nat.lt_or_ge arrs.length ar.length with hlt | hge2
    ·refine drvL Tryz.func30 ?_
     simp only [go_sem,rdr,hlt]
     iterate 3 ((try (refine drvZ Tryz.func30 ?_;simp only [go_sem,rdr]));((with_reducible and_intros)<;>try exact sd))
     refine Go.loopQ (fun x : Nat × List Int => [(0, .c (.ptr 0 0)), (3, .c (.ptr 1 0)), (4, .c (.ptr 65 0)), (5, .c (.ptr 66 0)), (7, DI .i64 arrs.length), (8, .c (.msl 69 1 0 x.2.length)), (9, DI .i64 x.2.length)])
      (fun x=>[(0,some (rdr bs x.1)),(1,some (Pg.cells ⟨vs,ar,bd⟩)),(65,some [.v (.slice none 0 0),.v (.slice none 0 0)]),(66,some [isI l,.msl 68 1 0 arrs.length]),(68,some (arrs.map isI)),(69,some (x.2.map I64))])
      16384 (fun x=>x.2.length≤4∧pos≤x.1∧x.1≤pos+x.2.length∧∀ y ∈ x.2,0≤y∧y≤255) (fun x=>4 - x.2.length) ?_ (pos,[]) (fun j=>if j=69 then some 8512 else some j) [] _ (by simp) ?_
     ·rintro ⟨ps,a⟩ ⟨hk1,hk2,hk3,hk4⟩ again2
      simp only at hk1 hk2 hk3 hk4
      rcases Nat.lt_or_ge a.length 4 with hlt2 | hge3
      ·have h4:((a.length:Int)<4)=True:=eq_true (by omega)
       refine drvL Tryz.func30 ?_
       simp only [go_sem,rdr,h4]
       iterate 3 ((try (refine drvZ Tryz.func30 ?_;simp only [go_sem,rdr]));((with_reducible and_intros)<;>try exact sd))
       refine XK.callG [0] (hval ps (by omega)) ok87 (hhp_one rfl) (hbT ()) (fun d h' ⟨_,_,_,_,_,_,e⟩=>by subst e;simp) ?_
       rintro _ _ ⟨v,rfl,hv,ps',hp1,hp3,rfl⟩ _
       iterate 4 ((try (refine drvZ Tryz.func30 ?_;simp only [go_sem,rdr]));((with_reducible and_intros)<;>try exact sd))
       refine again2 (ps',a++[v]) (fun j=>if j=69 then some 16768 else some j) [] _ ⟨by simp;omega,by omega,by simp;omega,rI a v hk4 hv⟩ (by simp;omega) ?_
       simp only [go_sem,TmOK,DM,DMs,CM,CMs,forall_eq,exists_eq_left,Mq,HpOK,LowOK,rdr,i_snoc]
       simp
       exact ⟨CMs.kf (kf_A _),CMs.kf (kf_app (kf_I _) (by simp [kf]))⟩
      ·have h4:((a.length:Int)<4)=False:=eq_false (by omega)
       have ha4:a.length=4:=by omega
       refine drv_sound (n:=3) (rs:=_) Tryz.func30 mo rfl none _ _ ?_
       simp only [go_sem,rdr]
       refine XK.freeze 8 69 1 a.length (a.map fun n=>[I64 n]) ?_ (by rw [flat_I];rfl) rfl (by simp) (by simp) (by simp [kf])
       iterate 6 ((try (refine drvZ Tryz.func30 ?_;simp only [go_sem,rdr,h4]));((with_reducible and_intros)<;>try exact sd))
       refine again (ps,arrs++[a]) (fun j=>if j=68 then some 16768 else some j) [] _ ⟨by simp;omega,by omega,by simp;omega,?_⟩ (by simp;omega) ?_
       ·intro b hb2
        rcases List.mem_append.1 hb2 with h3 | h3
        ·exact hj4 b h3
        ·rw [List.mem_singleton.1 h3];exact ⟨ha4,hk4⟩
       ·simp only [go_sem,TmOK,DM,DMs,CM,CMs,forall_eq,exists_eq_left,Mq,HpOK,LowOK,rdr,a_snoc]
        simp
        exact CMs.kf (kf_app (kf_A _) (by simp [kf]))
     ·simp only [go_sem,TmOK,DM,DMs,CM,CMs,forall_eq,exists_eq_left,Mq,HpOK,LowOK,rdr]
      simp [CMs]
      exact CMs.kf (kf_A _)
    ·have hnl:¬ arrs.length<ar.length:=by omega
     refine drvL Tryz.func30 ?_
     simp only [go_sem,rdr,hnl]
     iterate 3 ((try (refine drvZ Tryz.func30 ?_;simp only [go_sem,rdr]));((with_reducible and_intros)<;>try exact sd))
     refine RetOb.ofQ (fun j=>if j=0 then some 0 else none) [68] (.agg (Mm.cells ⟨l,arrs⟩)) [some (rdr bs pos)] ?_ ?_ (by simp)
     ·simp [enumL,hOf,DM,DMs,CM,CMs,HpOK,LowOK,upd,rdr,Mm.cells,isI,hdF,kf]
      exact (flat1 isI arrs).symm
     ·rw [← hR];exact ⟨⟨l,arrs⟩,rfl,⟨by simp only;omega,by simp only;omega,by simp only;omega,hp2,hi4,hj4⟩,pos,by omega,by omega,rfl⟩
   ·simp only [go_sem,TmOK,DM,DMs,CM,CMs,forall_eq,exists_eq_left,Mq,HpOK,LowOK,rdr]
    simp [CMs,kf,flat_I']
 ·simp only [go_sem,TmOK,DM,DMs,CM,CMs,forall_eq,exists_eq_left,Mq,HpOK,LowOK,rdr]
  simp [CMs]
theorem sim_shrink {m : Nat} {I : Nat → Prop} {w : World} {s : Sg} {hp : Hp} (H : SimH I w s hp) (k : Nat) (cs ds : List C) (hk : hp k = some (some (cs ++ ds))) :
 SimH I w s (upd hp k (some (some cs)))∧Ext m I w s hp I w s (upd hp k (some (some cs))):=by
 rcases H.blk k _ hk with ⟨h1,h2⟩ | ⟨b,arr,T,h1,h2,h3,h4,h5⟩
 ·have e:cs=[]∧ds=[]:=List.append_eq_nil_iff.1 h2
  have e2:upd hp k (some (some cs))=hp:=funext fun j=>by
   by_cases hj:j=k
   ·subst hj;rw [upd_same,hk,e.1,e.2];rfl
   ·rw [upd_ne _ _ hj]
  rw [e2]
  exact ⟨H,Ext.refl _ _ _ _ _⟩
 ·refine sim_store (m:=m) H k _ cs hk b arr arr T h1 h2 rfl (by rw [List.length_append] at h3;omega) (fun j hj=>?_) ?_
  ·obtain ⟨y,hy,hr⟩:=h5 j (by rw [List.length_append];omega)
   refine ⟨y,hy,?_⟩
   rw [List.getElem_append_left hj] at hr
   exact hr
  ·have:w.heap.setIfInBounds b (.cells arr T (0,0))=w.heap:=by
    apply Array.ext_getElem?
    intro j
    rw [Array.getElem?_setIfInBounds]
    by_cases e:b=j
    ·subst e;rw [if_pos rfl,if_pos (lt_of_heap h2),h2]
    ·simp [e]
   rw [this]
theorem RetOb.shrink {m:Nat} {R:D→List (Option (List C))→Prop} {d:D} {hp:Hp} {k:Nat} {cs ds:List C} (hk:hp k=some (some (cs++ds))) (hn:RetOb m R d (upd hp k (some (some cs)))):RetOb m R d hp:=fun I w s v H hv=>by
 obtain ⟨H',E'⟩:=sim_shrink H k cs ds hk
 obtain ⟨I',s',d2,h2,g1,g2,g3,g4,g5⟩:=hn I w s v H' hv
 exact ⟨I',s',d2,h2,g1,g2,g3,E'.trans g4,g5⟩
def hdA (k2 k3 : Nat) : List (List Int) → List C
 | []=>[]
 | [a]=>[.msl k2 1 0 a.length]
 | a :: b :: _=>[.msl k2 1 0 a.length,.msl k3 1 0 b.length]
theorem RetOb.memK {R : D → List (Option (List C)) → Prop} {m : Mm} {hp : Hp} {k0 k1 k2 k3 nv na : Nat} {rc : List C} (hna : m.arrays.length ≤ 2) (hR : R (.agg m.cells) [some rc]) (hrc : ∀ c ∈ rc, kf c = true)
 (hz:hp 0=some (some rc)) (h0:hp k0=some (some (m.vals.map I64))) (h1:hp k1=some (some (hdA k2 k3 m.arrays))) (h2:hp k2=some (some (blk0 m.arrays))) (h3:hp k3=some (some (blk1 m.arrays))) (hv:nv=m.vals.length) (hn:na=m.arrays.length)
 (hne:k0 ≠ k1∧k0 ≠ k2∧k0 ≠ k3∧k1 ≠ k2∧k1 ≠ k3∧k2 ≠ k3∧0 ≠ k0∧0 ≠ k1∧0 ≠ k2∧0 ≠ k3):RetOb 1 R (.agg [.msl k0 1 0 nv,.msl k1 1 0 na]) hp:=by
 subst hv hn
 obtain ⟨va,arr⟩:=m
 obtain ⟨n01,n02,n03,n12,n13,n23,nt0,nt1,nt2,nt3⟩:=hne
 refine RetOb.step (fun j=>if j=0 then some 0 else if j=1 then some k0 else if j=2 then some k1 else none) [k2,k3] (.agg [.msl 1 1 0 va.length,.msl 2 1 0 arr.length]) [(0,some rc),(1,some (va.map I64)),(2,some (arr.map isI))] ?_ ?_
 ·have e3:∀ a:List Int,(a.map fun n=>[C.v (.int .i64 n)]).flatten=a.map I64:=fun a=>flat1 _ a
  have e4:∀ {hT hS:Hp} {r:Nat→Option Nat} {fz:List Nat},CMs hT r hS fz rc rc=True:=eq_true (CMs.kf hrc)
  match arr,hna,h1,h2,h3 with
  | [],_,h1,h2,h3=>simp [DM,DMs,CM,CMs,HpOK,LowOK,hOf,upd,hz,h0,CMs_I,e4,h1,hdA,n01,n02,n03,n12,n13,n23,nt0,nt1,nt2,nt3,Ne.symm n01,Ne.symm nt0,Ne.symm nt1,Ne.symm n23]
  | [a],_,h1,h2,h3 =>
   simp [DM,DMs,CM,CMs,HpOK,LowOK,hOf,upd,hz,h0,CMs_I,e4,h1,h2,hdA,n01,n02,n03,n12,n13,n23,nt0,nt1,nt2,nt3,Ne.symm n01,Ne.symm nt0,Ne.symm nt1,Ne.symm n23,e3,isI,blk0,kf]
  | [a,b],_,h1,h2,h3 =>
   simp [DM,DMs,CM,CMs,HpOK,LowOK,hOf,upd,hz,h0,CMs_I,e4,h1,h2,h3,hdA,n01,n02,n03,n12,n13,n23,nt0,nt1,nt2,nt3,Ne.symm n01,Ne.symm nt0,Ne.symm nt1,Ne.symm n23,e3,isI,blk0,blk1,kf]
 ·refine RetOb.ofQ (fun j=>if j=0 then some 0 else none) [1,2] _ [some rc] ?_ hR (by simp)
  have e4:∀ {hT hS:Hp} {r:Nat→Option Nat} {fz:List Nat},CMs hT r hS fz rc rc=True:=eq_true (CMs.kf hrc)
  simp [enumL,DM,DMs,CM,CMs,HpOK,LowOK,hOf,upd,Mm.cells,isI,flat_I,kf,e4]
  exact (flat1 isI arr).symm
def SmM (m:Mm):Prop:=m.vals.length≤13∧m.arrays.length≤2∧∀ a ∈ m.arrays,a.length≤4
def beR (bs:List Int) (n:Nat) (r:D) (h:List (Option (List C))):Prop:=∃ m:Mm,r = .agg m.cells∧SmM m∧rdL bs n 5 h
theorem hdr_hdA (k k':Nat) (arr:List (List Int)) (h:arr.length≤2) (h4:∀ a ∈ arr,a.length=4):hdr k k' arr.length=hdA k k' arr:=by
 match arr,h,h4 with
 | [],_,_=>rfl
 | [a],_,h4=>simp [hdr,hdA,h4 a (by simp)]
 | [a,b],_,h4=>simp [hdr,hdA,h4 a (by simp),h4 b (by simp)]
theorem l3Bend (bs:List Int) (n:Nat) (m:Mm) (hb:Fits .u8 bs) (hl:bs.length≤2000) (hn:n≤274877906944) (hv:m.vals.length≤12) (ha:m.arrays.length≤2) (h4:∀ a ∈ m.arrays,a.length=4):DC Tryz.prog 49 [.c (.ptr 0 0),.agg m.cells] [some (rdr bs n)] (beR bs n):=by
 have hmx:=mx_eq
 have hcp:=l3Copy m (by omega) ha h4
 generalize hR:beR bs n=R
 unfold memB at hcp
 obtain ⟨va,arr⟩:=m
 have hv:va.length≤12:=hv
 have ha:arr.length≤2:=ha
 have h4:∀ a ∈ arr,a.length=4:=h4
 have hfin:∀ (k0 nv na:Nat) (n':Nat) (va':List Int) (hp:Hp),va'.length≤13→n≤n'→n'≤n+5→hp 0=some (some (rdr bs n'))→hp k0=some (some (va'.map I64))→hp 194=some (some (hdr 195 196 arr.length))→hp 195=some (some (blk0 arr))→hp 196=some (some (blk1 arr))→nv=va'.length→na=arr.length →
  (k0 ≠ 194∧k0 ≠ 195∧k0 ≠ 196∧0 ≠ k0)→RetOb 1 R (.agg [.msl k0 1 0 nv,.msl 194 1 0 na]) hp:=fun k0 nv na n' va' hp g1 g2 g3 g4 g5 g6 g7 g8 g9 g10 ⟨e1,e2,e3,e4⟩ =>
  RetOb.memK (m := ⟨va', arr⟩) (k2 := 195) (k3 := 196) ha (by rw [← hR]; exact ⟨⟨va', arr⟩, rfl, ⟨g1, ha, fun a h => by have := h4 a h; omega⟩, n', g2, g3, rfl⟩) (rdr_kf bs n') g4 g5 (by rw [g6, hdr_hdA _ _ _ ha h4]) g7 g8 g9 g10
   ⟨e1,e2,e3,by decide,by decide,by decide,e4,by decide,by decide,by decide⟩
 refine dcZ Tryz.func49 ?_
 simp only [go_sem,Mm.cells,rdr]
 ((try (refine drvZ Tryz.func49 ?_;simp only [go_sem,rdr]));((with_reducible and_intros)<;>try exact sd))
 refine XK.callG [] hcp ok88 (fun i' x h=>by simp at h) (hbT ()) (fun d h' ⟨_,e⟩=>by subst e;simp) ?_
 rintro _ _ ⟨rfl,rfl⟩ _
 iterate 3 ((try (refine drvZ Tryz.func49 ?_;simp only [go_sem,renCs_I,renCs_hdr,renCs_b0,renCs_b1,rdr]));((with_reducible and_intros)<;>try exact sd))
 refine XK.callG [0] (pick bs n 60 hb hl (by omega) (by simp only [InK];omega)) ok71 (hhp_one rfl) (hbT ()) (fun d h' ⟨v,_,_,e⟩=>by subst e;simp) ?_
 rintro _ _ ⟨v,rfl,hpv,rfl⟩ _
 have hpv:v=0∨v=1∨v=2∨v=3∨(v ≠ 0∧v ≠ 1∧v ≠ 2∧v ≠ 3):=by omega
 rcases hpv with rfl | rfl | rfl | rfl | ⟨h0,h1,h2,h3⟩
 ·iterate 4 ((try (refine drvZ Tryz.func49 ?_;simp only [go_sem,rdr]));((with_reducible and_intros)<;>try exact sd))
  exact hfin 833 _ _ (n+1) (va++[0]) _ (by simp;omega) (by omega) (by omega) rfl (by rw [i_snoc];rfl) rfl rfl rfl (by simp) rfl (by decide)
 ·cases va with
  | nil =>
   have hz:((0:Int)<0)=False:=eq_false (by omega)
   iterate 5 ((try (refine drvZ Tryz.func49 ?_;simp only [go_sem,rdr,Int.natCast_zero,hz]));((with_reducible and_intros)<;>try exact sd))
   exact hfin 193 _ _ (n+1) [] _ (by simp) (by omega) (by omega) rfl rfl rfl rfl rfl rfl rfl (by decide)
  | cons x r =>
   have hz:((0:Int)<(r.length:Int)+1)=True:=eq_true (by omega)
   have hv:r.length+1≤12:=hv
   iterate 5 ((try (refine drvZ Tryz.func49 ?_;simp only [go_sem,rdr,hz]));((with_reducible and_intros)<;>try exact sd))
   refine XK.callG [0,1217] (numO bs (n+1) [-1,256,9223372036854775807] hb hl (by omega) (by decide) (by decide)) ok73 (hhp2 rfl rfl) (hbT ()) (fun d h' ⟨_,_,_,e⟩=>by subst e;simp) ?_ (fun _=>⟨by kernel_rfl,_,_,⟨-1,rfl,by simp,rfl⟩,by simp⟩)
   rintro _ _ ⟨w,rfl,hw,rfl⟩ _
   clear hw
   iterate 5 ((try (refine drvZ Tryz.func49 ?_;simp only [go_sem,rdr,hz]));((with_reducible and_intros)<;>try exact sd))
   exact hfin 193 _ _ (n+2) (w :: r) _ (by simp;omega) (by omega) (by omega) rfl rfl rfl rfl rfl rfl rfl (by decide)
 ·match arr,ha,h4 with
  | [],ha,h4 =>
   have hz:((0:Int)<0)=False:=eq_false (by omega)
   iterate 6 ((try (refine drvZ Tryz.func49 ?_;simp only [go_sem,rdr,Int.natCast_zero,hz]));((with_reducible and_intros)<;>try exact sd))
   exact hfin 193 _ _ (n+1) va _ (by omega) (by omega) (by omega) rfl rfl rfl rfl rfl rfl rfl (by decide)
  | a :: rest,ha,h4 =>
   have hz:((0:Int)<(rest.length:Int)+1)=True:=eq_true (by omega)
   have ha4:a.length=4:=h4 a (by simp)
   have hrl:rest.length+1≤2:=ha
   iterate 6 ((try (refine drvZ Tryz.func49 ?_;simp only [go_sem,rdr,hz,hdr]));((with_reducible and_intros)<;>try exact sd))
   have hsp:a.map I64=(a.take 3).map I64++(a.drop 3).map I64:=by rw [← List.map_append,List.take_append_drop]
   refine RetOb.shrink (k:=195) (cs:=(a.take 3).map I64) (ds:=(a.drop 3).map I64) ?_ ?_
   ·rw [← hsp];rfl
   have ha3:(a.take 3).length=3:=by rw [List.length_take];omega
   match rest,hrl with
   | [],_ =>
    exact RetOb.memK (m:=⟨va,[a.take 3]⟩) (k0:=193) (k1:=194) (k2:=195) (k3:=196) (rc:=rdr bs ((n+1:Nat):Int)) (by simp) (by rw [← hR];exact ⟨⟨va,[a.take 3]⟩,rfl,⟨by simp only;omega,by simp,by simp;omega⟩,n+1,by omega,by omega,rfl⟩) (rdr_kf _ _) rfl rfl (by simp [upd,hdA,ha3]) rfl rfl rfl rfl (by decide)
   | [b],_ =>
    have hb4:b.length=4:=h4 b (by simp)
    exact RetOb.memK (m:=⟨va,[a.take 3,b]⟩) (k0:=193) (k1:=194) (k2:=195) (k3:=196) (rc:=rdr bs ((n+1:Nat):Int)) (by simp) (by rw [← hR];exact ⟨⟨va,[a.take 3,b]⟩,rfl,⟨by simp only;omega,by simp,by simp [hb4];omega⟩,n+1,by omega,by omega,rfl⟩) (rdr_kf _ _) rfl rfl (by simp [upd,hdA,ha3,hb4]) rfl rfl rfl rfl (by decide)
 ·iterate 6 ((try (refine drvZ Tryz.func49 ?_;simp only [go_sem,rdr]));((with_reducible and_intros)<;>try exact sd))
  refine RetOb.ofQ (fun j=>if j=0 then some 0 else none) [] (.agg (Mm.cells ⟨[],[]⟩)) [some (rdr bs ((n+1:Nat):Int))] ?_ ?_ (by simp)
  ·simp [enumL,hOf,DM,DMs,CM,CMs,HpOK,LowOK,upd,rdr,Mm.cells,isI,kf]
  ·rw [← hR];exact ⟨⟨[],[]⟩,rfl,⟨by simp,by simp,by simp⟩,n+1,by omega,by omega,rfl⟩
 ·have e0:(v == 0)=false:=by simp [h0]
  have e1:(v == 1)=false:=by simp [h1]
  have e2:(v == 2)=false:=by simp [h2]
  have e3:(v == 3)=false:=by simp [h3]
  iterate 6 ((try (refine drvZ Tryz.func49 ?_;simp only [go_sem,rdr,h0,h1,h2,h3,e0,e1,e2,e3]));((with_reducible and_intros)<;>try exact sd))
  exact hfin 193 _ _ (n+1) va _ (by omega) (by omega) (by omega) rfl rfl rfl rfl rfl rfl rfl (by decide)
theorem renC_kf (r : Nat → Nat) : ∀ c : C, kf c = true → renC r c = c
 | .v _,_ | .isl _ _,_ | .csl _ _ _,_ | .num _,_ | .z,_ | .unk,_ | .eptr _,_ | .met _ _,_=>rfl
 | .msl _ _ _ _,h | .ptr _ _,h | .clo _ _,h=>by simp [kf] at h
theorem renCs_kf (r:Nat→Nat) (cs:List C) (h:∀ c ∈ cs,kf c=true):renCs r cs=cs:=by
 rw [renCs_eq]
 conv=>rhs;rw [← List.map_id cs]
 exact List.map_congr_left fun c hc=>renC_kf r c (h c hc)
theorem renCs_stC (r:Nat→Nat) (l:List St1):renCs r (stC l)=stC l:=renCs_kf r _ (stC_kf l)
theorem l2Copy (p : Pg) (d : Nat) (hv : p.vars.length ≤ 1000) (ha : p.arrays.length ≤ 1000) (hb : p.body.length ≤ 1000) (hs : ∀ s ∈ p.body, SmS d s) : DC Tryz.prog 148 [.agg p.cells] []
 (fun r h=>r = .agg [.msl 0 1 0 p.vars.length,.msl 1 1 0 p.arrays.length,.msl 2 11 0 p.body.length]∧h=[some (p.vars.map I64),some (p.arrays.map I64),some (stC p.body)]):=by
 have hmx:=mx_eq
 have hcb:=l2CopyBlockOwn d p.body (by omega) hs
 generalize hR:(fun (r:D) (h:List (Option (List C)))=>r = .agg [.msl 0 1 0 p.vars.length,.msl 1 1 0 p.arrays.length,.msl 2 11 0 p.body.length]∧h=[some (p.vars.map I64),some (p.arrays.map I64),some (stC p.body)])=R
 obtain ⟨vs,ar,bd⟩:=p
 have hv:vs.length≤1000:=hv
 have ha:ar.length≤1000:=ha
 have hb:bd.length≤1000:=hb
 have hfl:(bd.map St1.cells).flatten=stC bd:=rfl
 refine dcZ Tryz.func148 ?_
 simp only [go_sem,flat_I']
 iterate 2 ((try (refine drvZ Tryz.func148 ?_;simp only [go_sem,flat_I']));((with_reducible and_intros)<;>try exact sd))
 refine XK.callG [] hcb ok165 (fun i' x h=>by simp at h) (hbT ()) (fun d h' ⟨_,e⟩=>by subst e;simp) ?_ (fun _=>⟨by kernel_rfl,_,_,⟨rfl,rfl⟩,by simp⟩)
 rintro _ _ ⟨rfl,rfl⟩ _
 iterate 3 ((try (refine drvZ Tryz.func148 ?_;simp only [go_sem,flat_I',renCs_stC]));((with_reducible and_intros)<;>try exact sd))
 refine RetOb.ofQ (fun j=>if j=0 then some 320 else if j=1 then some 576 else if j=2 then some 768 else none) [] (.agg [.msl 0 1 0 vs.length,.msl 1 1 0 ar.length,.msl 2 11 0 bd.length]) [some (vs.map I64),some (ar.map I64),some (stC bd)] ?_ (by rw [← hR];exact ⟨rfl,rfl⟩) (by simp)
 simp [enumL,hOf,DM,DMs,CM,CMs,HpOK,LowOK,upd,CMs_I]
 exact CMs.kf (stC_kf _)
structure SmP (p : Pg) : Prop where
 nv:p.vars.length≤13
 na:p.arrays.length≤2
 nb:p.body.length≤4
 sz:∀ k,lsize k p.body≤1000
 sm:∀ s ∈ p.body,SmS 2 s
def bare : St1 → List Ex × List Ex × List St1 × List St1
 | .mk _ _ (.mk _ _ ki) (.mk _ _ kv) _ b e=>(ki,kv,b,e)
theorem SmE.any {k v k' v':Int} {ks:List Ex} (h:SmE (.mk k v ks)):SmE (.mk k' v' ks):=by
 cases h with | mk _ _ _ h h2=>exact .mk _ _ _ h h2
theorem bare_sm (d:Nat) {s s':St1} (h:bare s=bare s') (hs:SmS d s):SmS d s':=by
 obtain ⟨k1,t1,⟨a1,b1,c1⟩,⟨d1,e1,f1⟩,g1,h1,i1⟩:=s
 obtain ⟨k2,t2,⟨a2,b2,c2⟩,⟨d2,e2,f2⟩,g2,h2,i2⟩:=s'
 simp only [bare,Prod.mk.injEq] at h
 obtain ⟨rfl,rfl,rfl,rfl⟩:=h
 cases d with
 | zero=>simp only [SmS] at hs ⊢;exact ⟨hs.1.any,hs.2.1.any,hs.2.2⟩
 | succ d=>simp only [SmS] at hs ⊢;exact ⟨hs.1.any,hs.2.1.any,hs.2.2⟩
theorem bare_sml {d:Nat} {l l':List St1} (h:l'.map bare=l.map bare) (hs:∀ s ∈ l,SmS d s):∀ s ∈ l',SmS d s:=fun s hm=>by
 have h1:bare s ∈ l.map bare:=by rw [← h];exact List.mem_map.2 ⟨s,hm,rfl⟩
 obtain ⟨s0,h2,h3⟩:=List.mem_map.1 h1
 exact bare_sm d h3 (hs s0 h2)
structure SmQ (e : Nat) (p : Pg) : Prop where
 nv:p.vars.length≤13
 na:p.arrays.length≤2
 nb:p.body.length≤4
 sm:∀ s ∈ p.body,SmS e s
def muQ (e:Nat) (bs:List Int) (n:Nat) (r:D) (h:List (Option (List C))):Prop:=∃ p:Pg,r = .agg p.cells∧SmQ e p∧rdL bs n 5 h
theorem SmQ.smP {p:Pg} (h:SmQ 2 p):SmP p:=⟨h.nv,h.na,h.nb,fun k=>by
 have h1:=lsize_sm 2 k p.body h.sm
 have h2:p.body.length * 9 ^ 2≤4 * 9 ^ 2:=Nat.mul_le_mul_right _ h.nb
 omega,h.sm⟩
def muR (bs:List Int) (n:Nat) (r:D) (h:List (Option (List C))):Prop:=∃ p:Pg,r = .agg p.cells∧SmP p∧rdL bs n 5 h
theorem RetOb.prK {R : D → List (Option (List C)) → Prop} {p : Pg} {hp : Hp} {k0 k1 k2 nv na nb : Nat} {rc : List C} (hR : R (.agg p.cells) [some rc]) (hrc : ∀ c ∈ rc, kf c = true)
 (hz:hp 0=some (some rc)) (h0:hp k0=some (some (p.vars.map I64))) (h1:hp k1=some (some (p.arrays.map I64))) (h2:hp k2=some (some (stC p.body))) (hv:nv=p.vars.length) (ha:na=p.arrays.length) (hb:nb=p.body.length)
 (hne:0 ≠ k0∧0 ≠ k1∧0 ≠ k2):RetOb 1 R (.agg [.msl k0 1 0 nv,.msl k1 1 0 na,.msl k2 11 0 nb]) hp:=by
 subst hv ha hb
 obtain ⟨vs,ar,bd⟩:=p
 obtain ⟨n0,n1,n2⟩:=hne
 refine RetOb.ofQ (fun j=>if j=0 then some 0 else none) [k0,k1,k2] _ [some rc] ?_ hR (by simp)
 have e4:∀ {hT hS:Hp} {r:Nat→Option Nat} {fz:List Nat},CMs hT r hS fz rc rc=True:=eq_true (CMs.kf hrc)
 have g1:(St1.cellsL bd).flatten=stC bd:=by rw [St1.cellsL_eq];rfl
 have g2:∀ x ∈ St1.cellsL bd,x.length=11:=fun x hx=>by rw [St1.cellsL_eq] at hx;obtain ⟨e,_,rfl⟩:=List.mem_map.1 hx;exact St1.cells_len e
 have g3:∀ x ∈ St1.cellsL bd,∀ c ∈ x,kf c=true:=fun x hx=>by rw [St1.cellsL_eq] at hx;obtain ⟨e,_,rfl⟩:=List.mem_map.1 hx;exact st_kf e
 simp [enumL,DM,DMs,CM,CMs,HpOK,LowOK,hOf,upd,Pg.cells,isI,flat_I,kf,e4,hz,h0,h1,h2,g1,St1.cellsL_length,n0,n1,n2]
 exact ⟨g2,g3⟩
theorem DrP.smP {p:Pg} (h:DrP p):SmP p:=⟨by have:=h.nv;omega,h.na,h.nb,fun k=>by
 have h1:=lsize_sm 2 k p.body h.sm
 have h2:p.body.length * 9 ^ 2≤4 * 9 ^ 2:=Nat.mul_le_mul_right _ h.nb
 omega,h.sm⟩
theorem stC_cons (s:St1) (l:List St1):stC (s :: l)=s.cells++stC l:=by simp [stC]
theorem stC_nil:stC []=[]:=rfl
theorem l2MutateD (e : Nat) (bs : List Int) (n : Nat) (p : Pg) (hb : Fits .u8 bs) (hl : bs.length ≤ 2000) (hn : n ≤ 274877906944) (hpv : p.vars.length ≤ 5) (hpa : p.arrays.length ≤ 2) (hpb : p.body.length ≤ 4) (hsm : ∀ s ∈ p.body, SmS e s) :
 DC Tryz.prog 109 [.c (.ptr 0 0),.agg p.cells] [some (rdr bs n)] (muQ e bs n):=by
 have hmx:=mx_eq
 have hcp:=l2Copy p e (by omega) (by omega) (by omega) hsm
 have hnum:=fun n xs h1 h2 h3=>numO bs n xs hb hl h1 h2 h3
 generalize hR:muQ e bs n=R
 obtain ⟨vs,ar,bd⟩:=p
 have hv5:vs.length≤5:=hpv
 have ha2:ar.length≤2:=hpa
 have hb4:bd.length≤4:=hpb
 have hfin:∀ (k0 nv na nb:Nat) (n':Nat) (va':List Int) (bd':List St1) (hp:Hp),va'.length≤13→bd'.length≤4→bd'.map bare=bd.map bare→n≤n'→n'≤n+5→hp 0=some (some (rdr bs n'))→hp k0=some (some (va'.map I64))→hp 194=some (some (ar.map I64))→hp 195=some (some (stC bd'))→nv=va'.length→na=ar.length→nb=bd'.length →
  0 ≠ k0→RetOb 1 R (.agg [.msl k0 1 0 nv,.msl 194 1 0 na,.msl 195 11 0 nb]) hp:=fun k0 nv na nb n' va' bd' hp g1 g1b g1c g2 g3 g4 g5 g6 g7 g8 g9 g10 e4 =>
  RetOb.prK (p:=⟨va',ar,bd'⟩) (by rw [← hR];exact ⟨⟨va',ar,bd'⟩,rfl,⟨g1,ha2,g1b,bare_sml g1c hsm⟩,n',g2,g3,rfl⟩) (rdr_kf bs n') g4 g5 g6 g7 g8 g9 g10 ⟨e4,by decide,by decide⟩
 refine dcZ Tryz.func109 ?_
 simp only [go_sem,rdr]
 ((try (refine drvZ Tryz.func109 ?_;simp only [go_sem,rdr]));((with_reducible and_intros)<;>try exact sd))
 refine XK.callG [] hcp ok148 (fun i' x h=>by simp at h) (hbT ()) (fun d h' ⟨_,e⟩=>by subst e;simp) ?_
 rintro _ _ ⟨rfl,rfl⟩ _
 iterate 3 ((try (refine drvZ Tryz.func109 ?_;simp only [go_sem,renCs_I,renCs_stC,rdr]));((with_reducible and_intros)<;>try exact sd))
 refine XK.callG [0] (pick bs n 60 hb hl (by omega) (by simp only [InK];omega)) ok71 (hhp_one rfl) (hbT ()) (fun d h' ⟨v,_,_,e⟩=>by subst e;simp) ?_
 rintro _ _ ⟨v,rfl,hpv,rfl⟩ _
 have hpv:v=0∨v=1∨v=2∨v=3∨v=4∨v=5∨v=6∨(v ≠ 0∧v ≠ 1∧v ≠ 2∧v ≠ 3∧v ≠ 4∧v ≠ 5∧v ≠ 6):=by omega
 rcases hpv with rfl | rfl | rfl | rfl | rfl | rfl | rfl | ⟨h0,h1,h2,h3,h4,h5,h6⟩
 ·cases vs with
  | nil =>
   have hz:((0:Int)<0)=False:=eq_false (by omega)
   iterate 5 ((try (refine drvZ Tryz.func109 ?_;simp only [go_sem,rdr,Int.natCast_zero,hz]));((with_reducible and_intros)<;>try exact sd))
   exact hfin 193 _ _ _ (n+1) [] bd _ (by first | omega | (simp;omega) | simp) (by first | omega | (simp;omega) | simp) rfl (by omega) (by omega) rfl rfl rfl rfl rfl rfl rfl (by decide)
  | cons x r =>
   have hv5:r.length+1≤5:=hv5
   have hz:((0:Int)<(r.length:Int)+1)=True:=eq_true (by omega)
   iterate 5 ((try (refine drvZ Tryz.func109 ?_;simp only [go_sem,rdr,hz]));((with_reducible and_intros)<;>try exact sd))
   refine XK.callG [0] (l1Draw bs (n+1) hb hl (by omega)) ok149 (hhp_one rfl) (hbT ()) (fun d h' ⟨_,_,_,_,_,_,e⟩=>by subst e;simp) ?_ (fun _=>⟨by kernel_rfl,_,_,⟨0,rfl,by simp [InK],n+1,by omega,by omega,rfl⟩,by simp⟩)
   rintro _ _ ⟨w,rfl,hw,n',hn1,hn2,rfl⟩ _
   iterate 5 ((try (refine drvZ Tryz.func109 ?_;simp only [go_sem,rdr,hz]));((with_reducible and_intros)<;>try exact sd))
   exact hfin 193 _ _ _ n' (w :: r) bd _ (by first | omega | (simp;omega) | simp) (by omega) rfl (by omega) (by omega) rfl rfl rfl rfl rfl rfl rfl (by decide)
 ·iterate 5 ((try (refine drvZ Tryz.func109 ?_;simp only [go_sem,rdr]));((with_reducible and_intros)<;>try exact sd))
  refine Go.loopQ (fun l : List Int => [(4, .c (.ptr 65 0)), (5, .c (.ptr 257 0))])
   (fun l=>[(0,some (rdr bs ((n+1:Nat):Int))),(65,some [.v (.slice none 0 0),.v (.slice none 0 0),.v (.slice none 0 0)]),(257,some [.msl 67 1 0 l.length,.msl 194 1 0 ar.length,.msl 195 11 0 bd.length]),(67,some (l.map I64)),(194,some (ar.map I64)),(195,some (stC bd))])
   4096 (fun l=>l.length≤13) (fun l=>13 - l.length) ?_ vs (fun j=>if j=67 then some 193 else some j) [] _ (by omega) ?_
  ·intro l hi again
   rcases Nat.lt_or_ge l.length 13 with hlt | hge
   ·have hz:((l.length:Int)≤12)=True:=eq_true (by omega)
    refine drvL Tryz.func109 ?_
    simp only [go_sem,rdr,hz]
    iterate 4 ((try (refine drvZ Tryz.func109 ?_;simp only [go_sem,rdr,hz]));((with_reducible and_intros)<;>try exact sd))
    refine again (l++[1]) (fun j=>if j=67 then some 4544 else some j) [] _ (by simp;omega) (by simp;omega) ?_
    simp only [go_sem,TmOK,DM,DMs,CM,CMs,forall_eq,exists_eq_left,Mq,HpOK,LowOK,rdr,i_snoc]
    simp
    exact ⟨CMs.kf (kf_app (kf_I _) (by simp [kf])),CMs.kf (kf_I _),CMs.kf (stC_kf _)⟩
   ·have hz:((l.length:Int)≤12)=False:=eq_false (by omega)
    refine drvL Tryz.func109 ?_
    simp only [go_sem,rdr,hz]
    iterate 4 ((try (refine drvZ Tryz.func109 ?_;simp only [go_sem,rdr,hz]));((with_reducible and_intros)<;>try exact sd))
    exact hfin 67 _ _ _ (n+1) l bd _ (by omega) (by omega) rfl (by omega) (by omega) rfl rfl rfl rfl rfl rfl rfl (by decide)
  ·simp only [go_sem,TmOK,DM,DMs,CM,CMs,forall_eq,exists_eq_left,Mq,HpOK,LowOK,rdr]
   simp
   exact ⟨CMs.kf (kf_I _),CMs.kf (kf_I _),CMs.kf (stC_kf _)⟩
 ·cases bd with
  | nil =>
   have hz:((0:Int)<0)=False:=eq_false (by omega)
   iterate 9 ((try (refine drvZ Tryz.func109 ?_;simp only [go_sem,rdr,Int.natCast_zero,hz]));((with_reducible and_intros)<;>try exact sd))
   exact hfin 193 _ _ _ (n+1) vs [] _ (by first | omega | (simp;omega) | simp) (by first | omega | (simp;omega) | simp) rfl (by omega) (by omega) rfl rfl rfl rfl rfl rfl rfl (by decide)
  | cons s r =>
   obtain ⟨k,t,⟨ik,iv,iks⟩,⟨vk,vv,vks⟩,c,b,e⟩:=s
   have hb4:r.length+1≤4:=hb4
   have hz:((0:Int)<(r.length:Int)+1)=True:=eq_true (by omega)
   iterate 9 ((try (refine drvZ Tryz.func109 ?_;simp only [go_sem,rdr,hz,stC_cons]));((with_reducible and_intros)<;>try exact sd))
   refine XK.callG [0,1473] (hnum (n+1) [0,6,1,5,2] (by omega) (by decide) (by decide)) ok73 (hhp2 rfl rfl) (hbT ()) (fun d h' ⟨_,_,_,e⟩=>by subst e;simp) ?_ (fun _=>⟨by kernel_rfl,_,_,⟨1,rfl,by simp,rfl⟩,by simp⟩)
   rintro _ _ ⟨w,rfl,hw,rfl⟩ _
   clear hw
   iterate 5 ((try (refine drvZ Tryz.func109 ?_;simp only [go_sem,rdr,hz,stC_cons]));((with_reducible and_intros)<;>try exact sd))
   exact hfin 193 _ _ _ (n+2) vs ((.mk w t (.mk ik iv iks) (.mk vk vv vks) c b e) :: r) _ (by first | omega | (simp;omega) | simp) (by first | omega | (simp;omega) | simp) rfl (by omega) (by omega) rfl rfl rfl rfl rfl rfl rfl (by decide)
 ·match bd,hb4 with
  | [],hb4 =>
   have hz:((0:Int)<0)=False:=eq_false (by omega)
   iterate 9 ((try (refine drvZ Tryz.func109 ?_;simp only [go_sem,rdr,Int.natCast_zero,hz]));((with_reducible and_intros)<;>try exact sd))
   exact hfin 193 _ _ _ (n+1) vs [] _ (by first | omega | (simp;omega) | simp) (by first | omega | (simp;omega) | simp) rfl (by omega) (by omega) rfl rfl rfl rfl rfl rfl rfl (by decide)
  | [a],hb4 =>
   obtain ⟨k,t,⟨ik,iv,iks⟩,⟨vk,vv,vks⟩,c0,b0,e0⟩:=a
   iterate 9 ((try (refine drvZ Tryz.func109 ?_;simp only [go_sem,rdr,stC_cons,stC_nil,Int.reduceSub,Int.natCast_zero]));((with_reducible and_intros)<;>try exact sd))
   refine XK.callG [0,1729] (hnum (n+1) [-1,12,1,9223372036854775807] (by omega) (by decide) (by decide)) ok73 (hhp2 rfl rfl) (hbT ()) (fun d h' ⟨_,_,_,e⟩=>by subst e;simp) ?_ (fun _=>⟨by kernel_rfl,_,_,⟨1,rfl,by simp,rfl⟩,by simp⟩)
   rintro _ _ ⟨w,rfl,hw,rfl⟩ _
   clear hw
   iterate 5 ((try (refine drvZ Tryz.func109 ?_;simp only [go_sem,rdr,stC_cons,stC_nil,Int.reduceSub,Int.natCast_zero]));((with_reducible and_intros)<;>try exact sd))
   exact hfin 193 _ _ _ (n+2) vs [(.mk k w (.mk ik iv iks) (.mk vk vv vks) c0 b0 e0)] _ (by first | omega | (simp;omega) | simp) (by first | omega | (simp;omega) | simp) rfl (by omega) (by omega) rfl rfl rfl rfl rfl rfl rfl (by decide)
  | [a,b],hb4 =>
   obtain ⟨k,t,⟨ik,iv,iks⟩,⟨vk,vv,vks⟩,c0,b0,e0⟩:=b
   obtain ⟨ka,ta,⟨ika,iva,iksa⟩,⟨vka,vva,vksa⟩,ca,ba,ea⟩:=a
   iterate 9 ((try (refine drvZ Tryz.func109 ?_;simp only [go_sem,rdr,stC_cons,stC_nil,Int.reduceSub,Int.natCast_zero]));((with_reducible and_intros)<;>try exact sd))
   refine XK.callG [0,1729] (hnum (n+1) [-1,12,1,9223372036854775807] (by omega) (by decide) (by decide)) ok73 (hhp2 rfl rfl) (hbT ()) (fun d h' ⟨_,_,_,e⟩=>by subst e;simp) ?_ (fun _=>⟨by kernel_rfl,_,_,⟨1,rfl,by simp,rfl⟩,by simp⟩)
   rintro _ _ ⟨w,rfl,hw,rfl⟩ _
   clear hw
   iterate 5 ((try (refine drvZ Tryz.func109 ?_;simp only [go_sem,rdr,stC_cons,stC_nil,Int.reduceSub,Int.natCast_zero]));((with_reducible and_intros)<;>try exact sd))
   exact hfin 193 _ _ _ (n+2) vs [(.mk ka ta (.mk ika iva iksa) (.mk vka vva vksa) ca ba ea),(.mk k w (.mk ik iv iks) (.mk vk vv vks) c0 b0 e0)] _ (by first | omega | (simp;omega) | simp) (by first | omega | (simp;omega) | simp) rfl (by omega) (by omega) rfl rfl rfl rfl rfl rfl rfl (by decide)
  | [a,b,c],hb4 =>
   obtain ⟨k,t,⟨ik,iv,iks⟩,⟨vk,vv,vks⟩,c0,b0,e0⟩:=c
   obtain ⟨ka,ta,⟨ika,iva,iksa⟩,⟨vka,vva,vksa⟩,ca,ba,ea⟩:=a
   obtain ⟨kb,tb,⟨ikb,ivb,iksb⟩,⟨vkb,vvb,vksb⟩,cb,bb,eb⟩:=b
   iterate 9 ((try (refine drvZ Tryz.func109 ?_;simp only [go_sem,rdr,stC_cons,stC_nil,Int.reduceSub,Int.natCast_zero]));((with_reducible and_intros)<;>try exact sd))
   refine XK.callG [0,1729] (hnum (n+1) [-1,12,1,9223372036854775807] (by omega) (by decide) (by decide)) ok73 (hhp2 rfl rfl) (hbT ()) (fun d h' ⟨_,_,_,e⟩=>by subst e;simp) ?_ (fun _=>⟨by kernel_rfl,_,_,⟨1,rfl,by simp,rfl⟩,by simp⟩)
   rintro _ _ ⟨w,rfl,hw,rfl⟩ _
   clear hw
   iterate 5 ((try (refine drvZ Tryz.func109 ?_;simp only [go_sem,rdr,stC_cons,stC_nil,Int.reduceSub,Int.natCast_zero]));((with_reducible and_intros)<;>try exact sd))
   exact hfin 193 _ _ _ (n+2) vs [(.mk ka ta (.mk ika iva iksa) (.mk vka vva vksa) ca ba ea),(.mk kb tb (.mk ikb ivb iksb) (.mk vkb vvb vksb) cb bb eb),(.mk k w (.mk ik iv iks) (.mk vk vv vks) c0 b0 e0)] _ (by first | omega | (simp;omega) | simp) (by first | omega | (simp;omega) | simp) rfl (by omega) (by omega) rfl rfl rfl rfl rfl rfl rfl (by decide)
  | [a,b,c,d],hb4 =>
   obtain ⟨k,t,⟨ik,iv,iks⟩,⟨vk,vv,vks⟩,c0,b0,e0⟩:=d
   obtain ⟨ka,ta,⟨ika,iva,iksa⟩,⟨vka,vva,vksa⟩,ca,ba,ea⟩:=a
   obtain ⟨kb,tb,⟨ikb,ivb,iksb⟩,⟨vkb,vvb,vksb⟩,cb,bb,eb⟩:=b
   obtain ⟨kc,tc,⟨ikc,ivc,iksc⟩,⟨vkc,vvc,vksc⟩,cc,bc,ec⟩:=c
   iterate 9 ((try (refine drvZ Tryz.func109 ?_;simp only [go_sem,rdr,stC_cons,stC_nil,Int.reduceSub,Int.natCast_zero]));((with_reducible and_intros)<;>try exact sd))
   refine XK.callG [0,1729] (hnum (n+1) [-1,12,1,9223372036854775807] (by omega) (by decide) (by decide)) ok73 (hhp2 rfl rfl) (hbT ()) (fun d h' ⟨_,_,_,e⟩=>by subst e;simp) ?_ (fun _=>⟨by kernel_rfl,_,_,⟨1,rfl,by simp,rfl⟩,by simp⟩)
   rintro _ _ ⟨w,rfl,hw,rfl⟩ _
   clear hw
   iterate 5 ((try (refine drvZ Tryz.func109 ?_;simp only [go_sem,rdr,stC_cons,stC_nil,Int.reduceSub,Int.natCast_zero]));((with_reducible and_intros)<;>try exact sd))
   exact hfin 193 _ _ _ (n+2) vs [(.mk ka ta (.mk ika iva iksa) (.mk vka vva vksa) ca ba ea),(.mk kb tb (.mk ikb ivb iksb) (.mk vkb vvb vksb) cb bb eb),(.mk kc tc (.mk ikc ivc iksc) (.mk vkc vvc vksc) cc bc ec),(.mk k w (.mk ik iv iks) (.mk vk vv vks) c0 b0 e0)] _ (by first | omega | (simp;omega) | simp) (by first | omega | (simp;omega) | simp) rfl (by omega) (by omega) rfl rfl rfl rfl rfl rfl rfl (by decide)
 ·cases bd with
  | nil =>
   have hz:((0:Int)<0)=False:=eq_false (by omega)
   iterate 9 ((try (refine drvZ Tryz.func109 ?_;simp only [go_sem,rdr,Int.natCast_zero,hz]));((with_reducible and_intros)<;>try exact sd))
   exact hfin 193 _ _ _ (n+1) vs [] _ (by first | omega | (simp;omega) | simp) (by first | omega | (simp;omega) | simp) rfl (by omega) (by omega) rfl rfl rfl rfl rfl rfl rfl (by decide)
  | cons s r =>
   obtain ⟨k,t,⟨ik,iv,iks⟩,⟨vk,vv,vks⟩,c,b,e⟩:=s
   have hb4:r.length+1≤4:=hb4
   have hz:((0:Int)<(r.length:Int)+1)=True:=eq_true (by omega)
   iterate 9 ((try (refine drvZ Tryz.func109 ?_;simp only [go_sem,rdr,hz,stC_cons]));((with_reducible and_intros)<;>try exact sd))
   refine XK.callG [0,1729] (hnum (n+1) [-1,256,12,1] (by omega) (by decide) (by decide)) ok73 (hhp2 rfl rfl) (hbT ()) (fun d h' ⟨_,_,_,e⟩=>by subst e;simp) ?_ (fun _=>⟨by kernel_rfl,_,_,⟨1,rfl,by simp,rfl⟩,by simp⟩)
   rintro _ _ ⟨w,rfl,hw,rfl⟩ _
   clear hw
   iterate 5 ((try (refine drvZ Tryz.func109 ?_;simp only [go_sem,rdr,hz,stC_cons]));((with_reducible and_intros)<;>try exact sd))
   exact hfin 193 _ _ _ (n+2) vs ((.mk k t (.mk ik iv iks) (.mk vk w vks) c b e) :: r) _ (by first | omega | (simp;omega) | simp) (by first | omega | (simp;omega) | simp) rfl (by omega) (by omega) rfl rfl rfl rfl rfl rfl rfl (by decide)
 ·cases bd with
  | nil =>
   have hz:((0:Int)<0)=False:=eq_false (by omega)
   iterate 9 ((try (refine drvZ Tryz.func109 ?_;simp only [go_sem,rdr,Int.natCast_zero,hz]));((with_reducible and_intros)<;>try exact sd))
   exact hfin 193 _ _ _ (n+1) vs [] _ (by first | omega | (simp;omega) | simp) (by first | omega | (simp;omega) | simp) rfl (by omega) (by omega) rfl rfl rfl rfl rfl rfl rfl (by decide)
  | cons s r =>
   obtain ⟨k,t,⟨ik,iv,iks⟩,⟨vk,vv,vks⟩,c,b,e⟩:=s
   have hb4:r.length+1≤4:=hb4
   have hz:((0:Int)<(r.length:Int)+1)=True:=eq_true (by omega)
   iterate 9 ((try (refine drvZ Tryz.func109 ?_;simp only [go_sem,rdr,hz,stC_cons]));((with_reducible and_intros)<;>try exact sd))
   refine XK.callG [0,1857] (hnum (n+1) [1,4,-1,2] (by omega) (by decide) (by decide)) ok73 (hhp2 rfl rfl) (hbT ()) (fun d h' ⟨_,_,_,e⟩=>by subst e;simp) ?_ (fun _=>⟨by kernel_rfl,_,_,⟨1,rfl,by simp,rfl⟩,by simp⟩)
   rintro _ _ ⟨w,rfl,hw,rfl⟩ _
   clear hw
   iterate 5 ((try (refine drvZ Tryz.func109 ?_;simp only [go_sem,rdr,hz,stC_cons]));((with_reducible and_intros)<;>try exact sd))
   exact hfin 193 _ _ _ (n+2) vs ((.mk k t (.mk ik iv iks) (.mk vk vv vks) w b e) :: r) _ (by first | omega | (simp;omega) | simp) (by first | omega | (simp;omega) | simp) rfl (by omega) (by omega) rfl rfl rfl rfl rfl rfl rfl (by decide)
 ·iterate 8 ((try (refine drvZ Tryz.func109 ?_;simp only [go_sem,rdr]));((with_reducible and_intros)<;>try exact sd))
  refine RetOb.ofQ (fun j=>if j=0 then some 0 else none) [] (.agg (Pg.cells ⟨[],[],[]⟩)) [some (rdr bs ((n+1:Nat):Int))] ?_ ?_ (by simp)
  ·simp [enumL,hOf,DM,DMs,CM,CMs,HpOK,LowOK,upd,rdr,Pg.cells,isI,kf,St1.cellsL]
  ·rw [← hR];exact ⟨⟨[],[],[]⟩,rfl,⟨by simp,by simp,by simp,by simp⟩,n+1,by omega,by omega,rfl⟩
 ·have e0:(v == 0)=false:=by simp [h0]
  have e1:(v == 1)=false:=by simp [h1]
  have e2:(v == 2)=false:=by simp [h2]
  have e3:(v == 3)=false:=by simp [h3]
  have e4:(v == 4)=false:=by simp [h4]
  have e5:(v == 5)=false:=by simp [h5]
  have e6:(v == 6)=false:=by simp [h6]
  iterate 8 ((try (refine drvZ Tryz.func109 ?_;simp only [go_sem,rdr,h0,h1,h2,h3,h4,h5,h6,e0,e1,e2,e3,e4,e5,e6]));((with_reducible and_intros)<;>try exact sd))
  exact hfin 193 _ _ _ (n+1) vs bd _ (by omega) (by omega) rfl (by omega) (by omega) rfl rfl rfl rfl rfl rfl rfl (by decide)
theorem DC_imp {P:Program} {F:FuncId} {args:List D} {h:List (Option (List C))} {R1 R2:D→List (Option (List C))→Prop} (hD:DC P F args h R1) (hi:∀ d h',R1 d h'→R2 d h'):DC P F args h R2:=fun I w s vs H hv=>by
 refine (hD I w s vs H hv).mono ?_
 rintro e w' ⟨v,I',s',d,h',rfl,hR,g⟩
 exact ⟨v,I',s',d,h',rfl,hi _ _ hR,g⟩
theorem l2Mutate (bs:List Int) (n:Nat) (p:Pg) (hb:Fits .u8 bs) (hl:bs.length≤2000) (hn:n≤274877906944) (hp:DrP p):DC Tryz.prog 109 [.c (.ptr 0 0),.agg p.cells] [some (rdr bs n)] (muR bs n) :=
 DC_imp (l2MutateD 2 bs n p hb hl hn hp.nv hp.na hp.nb hp.sm) fun d h ⟨p,e,hq,hr⟩=>⟨p,e,hq.smP,hr⟩
def dmR (r:D) (h:List (Option (List C))):Prop:=∃ (p:Pg) (m:Mm),r = .tup [.agg p.cells,.agg m.cells]∧SmP p∧SmM m∧h=[]
theorem fits_take {k:IntKind} {bs:List Int} (h:Fits k bs) (n:Nat):Fits k (bs.take n):=fun x hx=>h x (List.mem_of_mem_take hx)
theorem renCs_rdr (r:Nat→Nat) (bs:List Int) (n:Int):renCs r (rdr bs n)=rdr bs n:=renCs_kf r _ (rdr_kf bs n)
theorem prog_len {p:Pg} (h:progOK p=true):1≤p.vars.length∧p.vars.length≤12∧p.arrays.length≤2:=by
 simp only [progOK,headsOK,Bool.and_eq_true,decide_eq_true_eq] at h
 obtain ⟨⟨⟨⟨⟨_,h1⟩,h2⟩,h3⟩,_⟩,_⟩:=h
 omega
theorem drawMemoryValid (bs:List Int) (hb:Fits .u8 bs) (hl:bs.length≤mx):DC Tryz.prog 61 [bytesD bs] [] dmR:=by
 have hmx:=mx_eq
 have hop:=l17Open bs hl
 have hb':=fits_take hb 2000
 have hl':(bs.take 2000).length≤2000:=by rw [List.length_take];omega
 generalize hR:dmR=R
 generalize hbs:bs.take 2000=b2 at *
 unfold bytesD
 unfold bytesD at hop
 refine dcZ Tryz.func61 ?_
 simp only [go_sem]
 ((try (refine drvZ Tryz.func61 ?_;simp only [go_sem]));((with_reducible and_intros)<;>try exact sd))
 refine XK.callG [] hop ok28 (fun i' x h=>by simp at h) (hbT ()) (fun d h' ⟨_,e⟩=>by subst e;simp) ?_
 rintro _ _ ⟨rfl,rfl⟩ _
 iterate 2 ((try (refine drvZ Tryz.func61 ?_;simp only [go_sem,renCs_rdr]));((with_reducible and_intros)<;>try exact sd))
 have hpr:=l2Program b2 0 hb' hl' (by omega)
 refine XK.callG [192] hpr ok29 (hhp_one (by simp [upd,renCs_rdr])) (hbT ()) (fun d h' ⟨_,_,_,_,_,_,e⟩=>by subst e;simp) ?_
 rintro _ _ ⟨p,rfl,hp,n1,hn1,hn2,rfl⟩ _
 have hln:=prog_len hp.ok
 have hme:=l3Memory b2 n1 p hb' hl' (by omega) ⟨hln.1,hln.2.1⟩ hln.2.2
 have hmu:=fun n h=>l2Mutate b2 n p hb' hl' h hp
 obtain ⟨vs,ar,bd⟩:=p
 iterate 2 ((try (refine drvZ Tryz.func61 ?_;simp only [go_sem,renCs_rdr]));((with_reducible and_intros)<;>try exact sd))
 refine XK.callG [192] hme ok30 (hhp_one (by simp [upd,renCs_rdr])) (hbT ()) (fun d h' ⟨_,_,_,_,_,_,e⟩=>by subst e;simp) ?_
 rintro _ _ ⟨m,rfl,hm,n2,hn3,hn4,rfl⟩ _
 have hbe:=l3Bend b2 n2 m hb' hl' (by omega) (by rw [hm.nv];exact hm.nv12.2) (by rw [hm.na];exact hm.na2) (fun a ha=>(hm.arr a ha).1)
 obtain ⟨va,arr⟩:=m
 iterate 2 ((try (refine drvZ Tryz.func61 ?_;simp only [go_sem,renCs_rdr,Mm.cells]));((with_reducible and_intros)<;>try exact sd))
 refine XK.callG [192] hbe ok49 (hhp_one (by simp [upd,renCs_rdr])) (hbT ()) (fun d h' ⟨_,_,_,_,_,_,e⟩=>by subst e;simp) ?_
 rintro _ _ ⟨m2,rfl,hm2,n3,hn5,hn6,rfl⟩ _
 obtain ⟨va2,arr2⟩:=m2
 iterate 2 ((try (refine drvZ Tryz.func61 ?_;simp only [go_sem,renCs_rdr,Mm.cells]));((with_reducible and_intros)<;>try exact sd))
 refine XK.callG [192] (hmu n3 (by omega)) ok109 (hhp_one (by simp [upd,renCs_rdr])) (hbT ()) (fun d h' ⟨_,_,_,_,_,_,e⟩=>by subst e;simp) ?_ (fun _=>⟨by kernel_rfl,_,_,⟨⟨[],[],[]⟩,rfl,⟨by simp,by simp,by simp,fun k=>by simp [lsize],by simp⟩,n3,by omega,by omega,rfl⟩,by simp⟩)
 rintro _ _ ⟨p2,rfl,hp2,n4,hn7,hn8,rfl⟩ _
 obtain ⟨vs2,ar2,bd2⟩:=p2
 iterate 3 ((try (refine drvZ Tryz.func61 ?_;simp only [go_sem,renCs_rdr,Mm.cells]));((with_reducible and_intros)<;>try exact sd))
 refine RetOb.ofQ (fun _=>none) [] (.tup [.agg (Pg.cells ⟨vs2,ar2,bd2⟩),.agg (Mm.cells ⟨va2,arr2⟩)]) [] ?_ (by rw [← hR];exact ⟨_,_,rfl,hp2,hm2,rfl⟩) (by simp)
 simp [enumL,DM,DMs,CM,CMs,HpOK,LowOK,hOf,Pg.cells,Mm.cells,isI]
theorem drawRunProgram (bs:List Int) (hb:Fits .u8 bs) (hl:bs.length≤mx):DC Tryz.prog 16 [bytesD bs] [] dmR:=by
 have hdm:=drawMemoryValid bs hb hl
 generalize hR:dmR=R
 have hRR:=hR
 unfold bytesD
 unfold bytesD at hdm
 refine dcZ Tryz.func16 ?_
 simp only [go_sem]
 ((try (refine drvZ Tryz.func16 ?_;simp only [go_sem]));((with_reducible and_intros)<;>try exact sd))
 refine XK.callG [] hdm ok61 (fun i' x h=>by simp at h) (hbT ()) (fun d h' ⟨_,_,_,_,_,e⟩=>by subst e;simp) ?_
 rintro _ _ ⟨⟨vs2,ar2,bd2⟩,⟨va2,arr2⟩,rfl,hp2,hm2,rfl⟩ _
 iterate 3 ((try (refine drvZ Tryz.func16 ?_;simp only [go_sem,Mm.cells]));((with_reducible and_intros)<;>try exact sd))
 refine RetOb.ofQ (fun _=>none) [] (.tup [.agg (Pg.cells ⟨vs2,ar2,bd2⟩),.agg (Mm.cells ⟨va2,arr2⟩)]) [] ?_ (by rw [← hR];exact ⟨_,_,rfl,hp2,hm2,rfl⟩) (by simp)
 simp [enumL,DM,DMs,CM,CMs,HpOK,LowOK,hOf,Pg.cells,Mm.cells,isI]
end Go.Proofs.YtbknljofedfpjaaGreat.CtD
namespace Go.Proofs.YtbknljofedfpjaaGreat.CtR
open Go Go.CT CtF
variable [Yn]
theorem memSame_refl (m:Mm):memSame m m=true:=by simp [memSame]
theorem trSame_refl (t:List Ev):trSame t t=true:=(trSame_iff t t).2 rfl
theorem runP_of {p:Pg} {m:Mm} (h1:progOK p=true) (h2:memOK p.vars p.arrays m=true):runP p m=((runL 5 m p.body).1,(runL 5 m p.body).2,true):=runP_true (by rw [h1,h2];rfl)
def lab3 (l:List Int):Prop:=∀ x ∈ l,0≤x∧x≤3
theorem RetOb.two {R:D→List (Option (List C))→Prop} {a b:Int} {hp:Hp} (h:R (.tup [DI .i64 a,DI .i64 b]) []):RetOb 0 R (.tup [DI .i64 a,DI .i64 b]) hp :=
 RetOb.ofQ (fun _=>none) [] (.tup [DI .i64 a,DI .i64 b]) [] (by simp [enumL,DM,DMs,CM,HpOK,LowOK]) h (by simp)
abbrev BC (b:Bool):C := .v (.bool b)
def boolsC (bs:List Bool):List C:=bs.map BC
def boolsD (bs:List Bool):C := .isl 1 (bs.map fun b=>[BC b])
theorem boolsC_kf (bs:List Bool):∀ c ∈ boolsC bs,kf c=true:=by
 intro c hc;obtain ⟨x,_,rfl⟩:=List.mem_map.1 hc;rfl
theorem boolsC_set (bs:List Bool) (i:Nat) (b:Bool):(boolsC bs).set i (.v (.bool b))=boolsC (bs.set i b):=by
 unfold boolsC;rw [List.map_set]
theorem boolsC_len (bs:List Bool):(boolsC bs).length=bs.length:=by simp [boolsC]
theorem boolsC_rep (n:Nat) (b:Bool):(List.replicate n [C.v (.bool b)]).flatten=boolsC (List.replicate n b):=by
 induction n with
 | zero=>rfl
 | succ n ih=>rw [List.replicate_succ,List.flatten_cons,ih,List.replicate_succ];rfl
theorem boolsC_ren (r:Nat→Nat) (bs:List Bool):renCs r (boolsC bs)=boolsC bs:=by
 induction bs with
 | nil=>rfl
 | cons a r' ih=>simp only [boolsC,List.map_cons,renCs,renC] at ih ⊢;rw [ih]
end Go.Proofs.YtbknljofedfpjaaGreat.CtR
namespace Go.Proofs.YtbknljofedfpjaaGreat.CtD
open Go Go.CT CtF CtR
variable [Yn]
theorem runP_sm (p:Pg) (m:Mm):(runP p m).1.vals.length≤12∧(runP p m).1.arrays.length≤2∧(∀ a ∈ (runP p m).1.arrays,a.length≤4)∧(runP p m).2.1.length≤1000000:=by
 cases hq:(progOK p && memOK p.vars p.arrays m) with
 | false=>rw [runP_false hq];simp
 | true =>
  rw [runP_true hq]
  have hm:=memFits_of hq
  simp only [Bool.and_eq_true] at hq
  have hb:=body_of hq.1
  have h:=runL_ok hm hb.1
  have h2:=h.2
  rw [wt5] at h2
  refine ⟨by rw [h.1.nv];exact hm.nv12.2,by rw [h.1.na];exact hm.na2,fun a ha=>by have:=(h.1.arr a ha).1;omega,?_⟩
  have:=hb.2
  simp only
  omega
end Go.Proofs.YtbknljofedfpjaaGreat.CtD
namespace Go.Proofs.YtbknljofedfpjaaGreat.CtR
open Go Go.CT CtF
variable [Yn]
end Go.Proofs.YtbknljofedfpjaaGreat.CtR
namespace Go.Proofs.YtbknljofedfpjaaGreat.CtD
open Go Go.CT CtF CtR
variable [Yn]
end Go.Proofs.YtbknljofedfpjaaGreat.CtD
