/- Contracts of functions of the program, one behind the other, as plain data: what each call returns and which blocks it leaves. -/
import Derived.Test.YtddanjifhdaebaaNFacts
import Derived.Test.YtddanjifhdaebaaNAi
import Derived.Test.YtddanjifhdaebaaNAk
import Derived.Test.YtddanjifhdaebaaNAl
import Derived.Test.YtddanjifhdaebaaNAj
set_option linter.unusedVariables false
set_option linter.unusedSimpArgs false
set_option linter.unusedSectionVars false
set_option maxHeartbeats 16000000
set_option maxRecDepth 100000
namespace Go.Proofs.Ytddanjifhdaebaa.CtD
open Go Go.CT CtF CtR
variable [Yn]
def fixP:Pg:=⟨[0,1],[],[.mk 1 1 Ex0 (.mk 2 0 []) 0 [] []]⟩
structure DrP (p : Pg) : Prop where
  ok:progOK p=true
  nv:p.vars.length≤5
  na:p.arrays.length≤2
  nb:p.body.length≤4
  sm:∀ s ∈ p.body,SmS 2 s
theorem DrP.fix:DrP fixP:=⟨by decide,by decide,by decide,by decide,fun s hs=>by
  simp only [fixP,List.mem_singleton] at hs
  subst hs
  exact SmS.leaf SmE0 (.mk 2 0 [] (by simp) (fun x h=>by simp at h))⟩
def prR (bs:List Int) (n:Nat) (r:D) (h:List (Option (List C))):Prop:=∃ p:Pg,r = .agg p.cells∧DrP p∧rdL bs n 1000000 h
theorem i_snoc (l:List Int) (x:Int):(l++[x]).map I64=l.map I64++[I64 x]:=by simp
theorem l2Program (bs:List Int) (n:Nat) (hb:Fits .u8 bs) (hl:bs.length≤2000) (hn:n≤274877906944):DC Try.prog 162 [.c (.ptr 0 0)] [some (rdr bs n)] (prR bs n):=by
  have hmx:=mx_eq
  have hnum:=fun n xs h1 h2 h3=>numO bs n xs hb hl h1 h2 h3
  generalize hR:prR bs n=R
  refine dcZ Try.func162 ?_
  simp only [go_sem,rdr]
  iterate 3 ((try (refine drvZ Try.func162 ?_;simp only [go_sem,rdr]));((with_reducible and_intros)<;>try exact sd))
  refine XK.callG [0,321] (hnum n [3,4,2,5] (by omega) (by decide) (by decide)) ok159 (hhp2 rfl rfl) (hbT ()) (fun d h' ⟨_,_,_,e⟩=>by subst e;simp) ?_
  rintro _ _ ⟨nv,rfl,hnv,rfl⟩ _
  obtain ⟨a,rfl,ha5⟩:∃ a:Nat,nv=(a:Int)∧a≤5:=⟨nv.toNat,by simp at hnv;omega,by simp at hnv;omega⟩
  clear hnv
  iterate 1 (try (refine drvZ Try.func162 ?_;simp only [go_sem,rdr]))
  refine Go.loopQ (fun x : Nat × List Int => [(0, .c (.ptr 0 0)), (2, .c (.ptr 1 0)), (3, .c (.ptr 66 0)), (4, DI .i64 x.1)])
    (fun x=>[(0,some (rdr bs ((n+1+x.2.length:Nat):Int))),(1,some [.v (.slice none 0 0),.v (.slice none 0 0),.v (.slice none 0 0)]),(66,some [.msl 67 1 0 x.2.length,.v (.slice none 0 0),.v (.slice none 0 0)]),(67,some (x.2.map I64))])
    4096 (fun x=>x.1+x.2.length≤5) (fun x=>x.1) ?_ (a,[]) (fun j=>if j=66 then some 129 else if j=67 then none else some j) [] _ (by simp;omega) ?_
  · rintro ⟨i,vs⟩ hi again
    simp only at hi
    rcases i with _ | i
    · have hip:((0:Int)<0)=False:=eq_false (by omega)
      refine drvL Try.func162 ?_
      simp only [go_sem,rdr,hip,Int.natCast_zero]
      iterate 3 ((try (refine drvZ Try.func162 ?_;simp only [go_sem,rdr]));((with_reducible and_intros)<;>try exact sd))
      refine XK.callG [0,4288] (hnum (n+1+vs.length) [1,2,0,1] (by omega) (by decide) (by decide)) ok159 (hhp2 rfl rfl) (hbT ()) (fun d h' ⟨_,_,_,e⟩=>by subst e;simp) ?_
      rintro _ _ ⟨nv,rfl,hnv,rfl⟩ _
      obtain ⟨a2,rfl,ha2⟩:∃ a:Nat,nv=(a:Int)∧a≤2:=⟨nv.toNat,by simp at hnv;omega,by simp at hnv;omega⟩
      clear hnv again
      ((try (refine drvZ Try.func162 ?_;simp only [go_sem,rdr]));((with_reducible and_intros)<;>try exact sd))
      refine Go.loopQ (fun x : Nat × List Int => [(0, .c (.ptr 0 0)), (2, .c (.ptr 1 0)), (3, .c (.ptr 66 0)), (5, DI .i64 x.1)])
        (fun x=>[(0,some (rdr bs ((n+1+vs.length+1+x.2.length:Nat):Int))),(1,some [.v (.slice none 0 0),.v (.slice none 0 0),.v (.slice none 0 0)]),(66,some [isI vs,.msl 68 1 0 x.2.length,.v (.slice none 0 0)]),(68,some (x.2.map I64))])
        8192 (fun x=>x.1+x.2.length≤2) (fun x=>x.1) ?_ (a2,[]) (fun j=>if j=68 then none else some j) [67] _ (by simp;omega) ?_
      · rintro ⟨i,ar⟩ hi again
        simp only at hi
        rcases i with _ | i
        · have hip:((0:Int)<0)=False:=eq_false (by omega)
          refine drv_sound (n:=3) (rs:=_) Try.func162 mo rfl none _ _ ?_
          simp only [go_sem,rdr]
          refine XK.subQ (r := some) (fz := [68]) (tl := [(0, .c (.ptr 0 0)), (2, .c (.ptr 1 0)), (3, .c (.ptr 66 0)), (5, DI .i64 0)])
            (hl:=[(0,some (rdr bs ((n+1+vs.length+1+ar.length:Nat):Int))),(1,some [.v (.slice none 0 0),.v (.slice none 0 0),.v (.slice none 0 0)]),(66,some [isI vs,isI ar,.isl 11 []])]) ?_ ?_
          · simp only [go_sem,TmOK,DM,DMs,CM,CMs,forall_eq,exists_eq_left,Mq,HpOK,LowOK,rdr]
            simp [CMs,kf,flat_I']
          iterate 3 ((try (refine drvZ Try.func162 ?_;simp only [go_sem,rdr,hip]));((with_reducible and_intros)<;>try exact sd))
          refine XK.callG [0,8512] (hnum (n+1+vs.length+1+ar.length) [2,3,1,4] (by omega) (by decide) (by decide)) ok159 (hhp2 rfl rfl) (hbT ()) (fun d h' ⟨_,_,_,e⟩=>by subst e;simp) ?_ (fun _=>⟨by kernel_rfl,_,_,⟨1,rfl,by simp,rfl⟩,by simp⟩)
          rintro _ _ ⟨nv,rfl,hnv,rfl⟩ _
          obtain ⟨nn,rfl,hnn⟩:∃ a:Nat,nv=(a:Int)∧a≤4:=⟨nv.toNat,by simp at hnv;omega,by simp at hnv;omega⟩
          clear hnv again
          have hvs:vs.length≤5:=by omega
          have har:ar.length≤2:=by omega
          have hdb:=((draws bs ⟨vs,ar,[]⟩ hb hl (by simp only;omega) (by simp only;omega) 2 (by omega)).2 (n+1+vs.length+1+ar.length+1) nn hnn (by have:=KS_le 2 (by omega);omega))
          iterate 2 ((try (refine drvZ Try.func162 ?_;simp only [go_sem,rdr,hip]));((with_reducible and_intros)<;>try exact sd))
          refine XK.callG [0] hdb ok188 (hhp_one rfl) (hbT ()) (fun d h' ⟨_,_,_,_,_,_,_,e⟩=>by subst e;simp) ?_ (fun _=>⟨by kernel_rfl,_,_,⟨[],rfl,by simp,by simp,n+1+vs.length+1+ar.length+1,by omega,by omega,rfl⟩,by simp⟩)
          rintro _ _ ⟨bd,rfl,hbl,hbs,m,hm1,hm2,rfl⟩ _
          have hKS:KS 2=87600:=rfl
          have hls:=lsize_sm 2 5 bd hbs
          have hpv:=programValidS ⟨vs,ar,bd⟩ (by simp only;omega) (by simp only;omega) (by simp only;omega)
          iterate 3 ((try (refine drvZ Try.func162 ?_;simp only [go_sem,rdr,hip]));((with_reducible and_intros)<;>try exact sd))
          refine XK.plain hpv ok82 ?_ (hbT ())
          cases hq:progOK ⟨vs,ar,bd⟩ with
          | true =>
            iterate 3 ((try (refine drvZ Try.func162 ?_;simp only [go_sem,rdr,hq]));((with_reducible and_intros)<;>try exact sd))
            refine RetOb.keep1 (d := .agg (Pg.cells ⟨vs,ar,bd⟩)) (cs:=rdr bs m) (by rw [← hR];exact ⟨⟨vs,ar,bd⟩,rfl,⟨hq,hvs,har,hbl,hbs⟩,m,by omega,by omega,rfl⟩) rfl (rdr_kf _ _) ?_
            intro c hc
            simp only [Pg.cells,isI,List.mem_cons,List.not_mem_nil,or_false] at hc
            rcases hc with rfl | rfl | rfl<;>rfl
          | false =>
            iterate 3 ((try (refine drvZ Try.func162 ?_;simp only [go_sem,rdr,hq]));((with_reducible and_intros)<;>try exact sd))
            refine RetOb.step some [] (.agg [.msl 8960 1 0 2,.isl 1 [],.msl 9152 11 0 1]) [(0,some (rdr bs m)),(8960,some [I64 0,I64 1]),(9152,some (stC fixP.body))] ?_ ?_
            · simp [hOf,DM,DMs,CM,CMs,HpOK,LowOK,upd,rdr,stC,fixP,St1.cells,St1.cellsL,Ex.cells,Ex.cellsL,Ex0]
            refine RetOb.ofQ (fun j=>if j=0 then some 0 else none) [8960,9152] (.agg (Pg.cells fixP)) [some (rdr bs m)] ?_ ?_ (by simp)
            · simp [enumL,hOf,DM,DMs,CM,CMs,HpOK,LowOK,upd,rdr,stC,fixP,Pg.cells,isI,St1.cells,St1.cellsL,Ex.cells,Ex.cellsL,Ex0,kf]
            · rw [← hR];exact ⟨fixP,rfl,DrP.fix,m,by omega,by omega,rfl⟩
        · have hip:((0:Int)<(i:Int)+1)=True:=eq_true (by omega)
          refine drvL Try.func162 ?_
          simp only [go_sem,rdr,hip]
          iterate 3 ((try (refine drvZ Try.func162 ?_;simp only [go_sem,rdr]));((with_reducible and_intros)<;>try exact sd))
          refine XK.callG [0,8512] (hnum (n+1+vs.length+1+ar.length) [0,1,0,1,3] (by omega) (by decide) (by decide)) ok159 (hhp2 rfl rfl) (hbT ()) (fun d h' ⟨_,_,_,e⟩=>by subst e;simp) ?_ (fun _=>⟨by kernel_rfl,_,_,⟨0,rfl,by simp,rfl⟩,by simp⟩)
          rintro _ _ ⟨v,rfl,hv,rfl⟩ _
          clear hv
          iterate 4 ((try (refine drvZ Try.func162 ?_;simp only [go_sem,rdr]));((with_reducible and_intros)<;>try exact sd))
          refine again (i,ar++[v]) (fun j=>if j=68 then some 8704 else some j) [] _ (by simp;omega) (by simp) ?_
          simp only [go_sem,TmOK,DM,DMs,CM,CMs,forall_eq,exists_eq_left,Mq,HpOK,LowOK,rdr,i_snoc]
          simp
          exact ⟨by omega,CMs.kf (kf_app (kf_I _) (by simp [kf]))⟩
      · simp only [go_sem,TmOK,DM,DMs,CM,CMs,forall_eq,exists_eq_left,Mq,HpOK,LowOK,rdr]
        simp [CMs,kf,flat_I']
    · have hip:((0:Int)<(i:Int)+1)=True:=eq_true (by omega)
      refine drvL Try.func162 ?_
      simp only [go_sem,rdr,hip]
      iterate 3 ((try (refine drvZ Try.func162 ?_;simp only [go_sem,rdr]));((with_reducible and_intros)<;>try exact sd))
      refine XK.callG [0,4416] (hnum (n+1+vs.length) [0,1,0,1,2,3] (by omega) (by decide) (by decide)) ok159 (hhp2 rfl rfl) (hbT ()) (fun d h' ⟨_,_,_,e⟩=>by subst e;simp) ?_ (fun _=>⟨by kernel_rfl,_,_,⟨0,rfl,by simp,rfl⟩,by simp⟩)
      rintro _ _ ⟨v,rfl,hv,rfl⟩ _
      clear hv
      iterate 4 ((try (refine drvZ Try.func162 ?_;simp only [go_sem,rdr]));((with_reducible and_intros)<;>try exact sd))
      refine again (i,vs++[v]) (fun j=>if j=67 then some 4608 else some j) [] _ (by simp;omega) (by simp) ?_
      simp only [go_sem,TmOK,DM,DMs,CM,CMs,forall_eq,exists_eq_left,Mq,HpOK,LowOK,rdr,i_snoc]
      simp
      exact ⟨by omega,CMs.kf (kf_app (kf_I _) (by simp [kf]))⟩
  · simp only [go_sem,TmOK,DM,DMs,CM,CMs,forall_eq,exists_eq_left,Mq,HpOK,LowOK,rdr]
    simp [CMs]
theorem a_snoc (l:List (List Int)) (x:List Int):(l++[x]).map isI=l.map isI++[isI x]:=by simp
theorem hdF (l:List (List Int)):(l.map fun a=>[isI a]).flatten=l.map isI:=flat1 _ l
theorem rI (l:List Int) (x:Int) (h:∀ y ∈ l,0≤y∧y≤255) (h2:0≤x∧x≤255):∀ y ∈ l++[x],0≤y∧y≤255:=fun y hy=>by
  rcases List.mem_append.1 hy with h3 | h3
  · exact h y h3
  · rw [List.mem_singleton.1 h3];exact h2
theorem sim_shrink {m : Nat} {I : Nat → Prop} {w : World} {s : Sg} {hp : Hp} (H : SimH I w s hp) (k : Nat) (cs ds : List C) (hk : hp k = some (some (cs ++ ds))) :
    SimH I w s (upd hp k (some (some cs)))∧Ext m I w s hp I w s (upd hp k (some (some cs))):=by
  rcases H.blk k _ hk with ⟨h1,h2⟩ | ⟨b,arr,T,h1,h2,h3,h4,h5⟩
  · have e:cs=[]∧ds=[]:=List.append_eq_nil_iff.1 h2
    have e2:upd hp k (some (some cs))=hp:=funext fun j=>by
      by_cases hj:j=k
      · subst hj;rw [upd_same,hk,e.1,e.2];rfl
      · rw [upd_ne _ _ hj]
    rw [e2]
    exact ⟨H,Ext.refl _ _ _ _ _⟩
  · refine sim_store (m:=m) H k _ cs hk b arr arr T h1 h2 rfl (by rw [List.length_append] at h3;omega) (fun j hj=>?_) ?_
    · obtain ⟨y,hy,hr⟩:=h5 j (by rw [List.length_append];omega)
      refine ⟨y,hy,?_⟩
      rw [List.getElem_append_left hj] at hr
      exact hr
    · have:w.heap.setIfInBounds b (.cells arr T (0,0))=w.heap:=by
        apply Array.ext_getElem?
        intro j
        rw [Array.getElem?_setIfInBounds]
        by_cases e:b=j
        · subst e;rw [if_pos rfl,if_pos (lt_of_heap h2),h2]
        · simp [e]
      rw [this]
theorem RetOb.shrink {m:Nat} {R:D→List (Option (List C))→Prop} {d:D} {hp:Hp} {k:Nat} {cs ds:List C} (hk:hp k=some (some (cs++ds))) (hn:RetOb m R d (upd hp k (some (some cs)))):RetOb m R d hp:=fun I w s v H hv=>by
  obtain ⟨H',E'⟩:=sim_shrink H k cs ds hk
  obtain ⟨I',s',d2,h2,g1,g2,g3,g4,g5⟩:=hn I w s v H' hv
  exact ⟨I',s',d2,h2,g1,g2,g3,E'.trans g4,g5⟩
def hdA (k2 k3 : Nat) : List (List Int) → List C
  | []=>[]
  | [a]=>[.msl k2 1 0 a.length]
  | a :: b :: _=>[.msl k2 1 0 a.length,.msl k3 1 0 b.length]
theorem RetOb.memK {R : D → List (Option (List C)) → Prop} {m : Mm} {hp : Hp} {k0 k1 k2 k3 nv na : Nat} {rc : List C} (hna : m.arrays.length ≤ 2) (hR : R (.agg m.cells) [some rc]) (hrc : ∀ c ∈ rc, kf c = true)
    (hz:hp 0=some (some rc)) (h0:hp k0=some (some (m.vals.map I64))) (h1:hp k1=some (some (hdA k2 k3 m.arrays))) (h2:hp k2=some (some (blk0 m.arrays))) (h3:hp k3=some (some (blk1 m.arrays))) (hv:nv=m.vals.length) (hn:na=m.arrays.length)
    (hne:k0 ≠ k1∧k0 ≠ k2∧k0 ≠ k3∧k1 ≠ k2∧k1 ≠ k3∧k2 ≠ k3∧0 ≠ k0∧0 ≠ k1∧0 ≠ k2∧0 ≠ k3):RetOb 1 R (.agg [.msl k0 1 0 nv,.msl k1 1 0 na]) hp:=by
  subst hv hn
  obtain ⟨va,arr⟩:=m
  obtain ⟨n01,n02,n03,n12,n13,n23,nt0,nt1,nt2,nt3⟩:=hne
  refine RetOb.step (fun j=>if j=0 then some 0 else if j=1 then some k0 else if j=2 then some k1 else none) [k2,k3] (.agg [.msl 1 1 0 va.length,.msl 2 1 0 arr.length]) [(0,some rc),(1,some (va.map I64)),(2,some (arr.map isI))] ?_ ?_
  · have e3:∀ a:List Int,(a.map fun n=>[C.v (.int .i64 n)]).flatten=a.map I64:=fun a=>flat1 _ a
    have e4:∀ {hT hS:Hp} {r:Nat→Option Nat} {fz:List Nat},CMs hT r hS fz rc rc=True:=eq_true (CMs.kf hrc)
    match arr,hna,h1,h2,h3 with
    | [],_,h1,h2,h3=>simp [DM,DMs,CM,CMs,HpOK,LowOK,hOf,upd,hz,h0,CMs_I,e4,h1,hdA,n01,n02,n03,n12,n13,n23,nt0,nt1,nt2,nt3,Ne.symm n01,Ne.symm nt0,Ne.symm nt1,Ne.symm n23]
    | [a],_,h1,h2,h3 =>
      simp [DM,DMs,CM,CMs,HpOK,LowOK,hOf,upd,hz,h0,CMs_I,e4,h1,h2,hdA,n01,n02,n03,n12,n13,n23,nt0,nt1,nt2,nt3,Ne.symm n01,Ne.symm nt0,Ne.symm nt1,Ne.symm n23,e3,isI,blk0,kf]
    | [a,b],_,h1,h2,h3 =>
      simp [DM,DMs,CM,CMs,HpOK,LowOK,hOf,upd,hz,h0,CMs_I,e4,h1,h2,h3,hdA,n01,n02,n03,n12,n13,n23,nt0,nt1,nt2,nt3,Ne.symm n01,Ne.symm nt0,Ne.symm nt1,Ne.symm n23,e3,isI,blk0,blk1,kf]
  · refine RetOb.ofQ (fun j=>if j=0 then some 0 else none) [1,2] _ [some rc] ?_ hR (by simp)
    have e4:∀ {hT hS:Hp} {r:Nat→Option Nat} {fz:List Nat},CMs hT r hS fz rc rc=True:=eq_true (CMs.kf hrc)
    simp [enumL,DM,DMs,CM,CMs,HpOK,LowOK,hOf,upd,Mm.cells,isI,flat_I,kf,e4]
    exact (flat1 isI arr).symm
theorem hdr_hdA (k k':Nat) (arr:List (List Int)) (h:arr.length≤2) (h4:∀ a ∈ arr,a.length=4):hdr k k' arr.length=hdA k k' arr:=by
  match arr,h,h4 with
  | [],_,_=>rfl
  | [a],_,h4=>simp [hdr,hdA,h4 a (by simp)]
  | [a,b],_,h4=>simp [hdr,hdA,h4 a (by simp),h4 b (by simp)]
theorem renC_kf (r : Nat → Nat) : ∀ c : C, kf c = true → renC r c = c
  | .v _,_ | .isl _ _,_ | .csl _ _ _,_ | .num _,_ | .z,_ | .unk,_ | .eptr _,_ | .met _ _,_=>rfl
  | .msl _ _ _ _,h | .ptr _ _,h | .clo _ _,h=>by simp [kf] at h
theorem renCs_kf (r:Nat→Nat) (cs:List C) (h:∀ c ∈ cs,kf c=true):renCs r cs=cs:=by
  rw [renCs_eq]
  conv=>rhs;rw [← List.map_id cs]
  exact List.map_congr_left fun c hc=>renC_kf r c (h c hc)
theorem SmE.any {k v k' v':Int} {ks:List Ex} (h:SmE (.mk k v ks)):SmE (.mk k' v' ks):=by
  cases h with | mk _ _ _ h h2=>exact .mk _ _ _ h h2
theorem fits_take {k:IntKind} {bs:List Int} (h:Fits k bs) (n:Nat):Fits k (bs.take n):=fun x hx=>h x (List.mem_of_mem_take hx)
theorem renCs_rdr (r:Nat→Nat) (bs:List Int) (n:Int):renCs r (rdr bs n)=rdr bs n:=renCs_kf r _ (rdr_kf bs n)
theorem prog_len {p:Pg} (h:progOK p=true):1≤p.vars.length∧p.vars.length≤12∧p.arrays.length≤2:=by
  simp only [progOK,headsOK,Bool.and_eq_true,decide_eq_true_eq] at h
  obtain ⟨⟨⟨⟨⟨_,h1⟩,h2⟩,h3⟩,_⟩,_⟩:=h
  omega
end Go.Proofs.Ytddanjifhdaebaa.CtD
namespace Go.Proofs.Ytddanjifhdaebaa.CtR
open Go Go.CT CtF
variable [Yn]
def lab3 (l:List Int):Prop:=∀ x ∈ l,0≤x∧x≤3
theorem RetOb.two {R:D→List (Option (List C))→Prop} {a b:Int} {hp:Hp} (h:R (.tup [DI .i64 a,DI .i64 b]) []):RetOb 0 R (.tup [DI .i64 a,DI .i64 b]) hp :=
  RetOb.ofQ (fun _=>none) [] (.tup [DI .i64 a,DI .i64 b]) [] (by simp [enumL,DM,DMs,CM,HpOK,LowOK]) h (by simp)
end Go.Proofs.Ytddanjifhdaebaa.CtR
namespace Go.Proofs.Ytddanjifhdaebaa.CtD
open Go Go.CT CtF CtR
variable [Yn]
end Go.Proofs.Ytddanjifhdaebaa.CtD
namespace Go.Proofs.Ytddanjifhdaebaa.CtR
end Go.Proofs.Ytddanjifhdaebaa.CtR
namespace Go.Proofs.Ytddanjifhdaebaa.CtD
open Go Go.CT CtF CtR
variable [Yn]
end Go.Proofs.Ytddanjifhdaebaa.CtD
namespace Go.Proofs.Ytddanjifhdaebaa.CtF
end Go.Proofs.Ytddanjifhdaebaa.CtF
namespace Go.Proofs.Ytddanjifhdaebaa.CtR
end Go.Proofs.Ytddanjifhdaebaa.CtR
namespace Go.Proofs.Ytddanjifhdaebaa.CtD
open Go Go.CT CtF CtR
variable [Yn]
end Go.Proofs.Ytddanjifhdaebaa.CtD
namespace Go.Proofs.Ytddanjifhdaebaa.CtF
end Go.Proofs.Ytddanjifhdaebaa.CtF
namespace Go.Proofs.Ytddanjifhdaebaa.CtR
end Go.Proofs.Ytddanjifhdaebaa.CtR
namespace Go.Proofs.Ytddanjifhdaebaa.CtD
open Go Go.CT CtF CtR
variable [Yn]
end Go.Proofs.Ytddanjifhdaebaa.CtD
namespace Go.Proofs.Ytddanjifhdaebaa.CtF
end Go.Proofs.Ytddanjifhdaebaa.CtF
namespace Go.Proofs.Ytddanjifhdaebaa.CtR
end Go.Proofs.Ytddanjifhdaebaa.CtR
namespace Go.Proofs.Ytddanjifhdaebaa.CtD
open Go Go.CT CtF CtR
variable [Yn]
end Go.Proofs.Ytddanjifhdaebaa.CtD
namespace Go.Proofs.Ytddanjifhdaebaa.CtF
end Go.Proofs.Ytddanjifhdaebaa.CtF
namespace Go.Proofs.Ytddanjifhdaebaa.CtR
end Go.Proofs.Ytddanjifhdaebaa.CtR
namespace Go.Proofs.Ytddanjifhdaebaa.CtD
open Go Go.CT CtF CtR
variable [Yn]
theorem len0 {l:List St1} (h:¬ 0<l.length):l=[]:=List.eq_nil_of_length_eq_zero (by omega)
end Go.Proofs.Ytddanjifhdaebaa.CtD
namespace Go.Proofs.Ytddanjifhdaebaa.CtF
variable [Go.CT.Yn]
end Go.Proofs.Ytddanjifhdaebaa.CtF
namespace Go.Proofs.Ytddanjifhdaebaa.CtR
variable [Go.CT.Yn]
open Go Go.CT CtF
def subL (a b:Nat):Bool:=a ||| b == b
open Go Go.CT CtF
open Go Go.CT CtF
def fdif : List Ev → List Ev → Int → Int
  | [],[],_ => -1
  | a :: r,b :: s,n=>if a.kind=b.kind∧a.value=b.value then fdif r s (n+1) else n
  | _,_,n=>n
theorem fdif_same : ∀ (t : List Ev) (n : Int), fdif t t n = -1
  | [],_=>rfl
  | a :: r,n=>by simp [fdif,fdif_same r]
end Go.Proofs.Ytddanjifhdaebaa.CtR
namespace Go.Proofs.Ytddanjifhdaebaa.CtF
end Go.Proofs.Ytddanjifhdaebaa.CtF
namespace Go.Proofs.Ytddanjifhdaebaa.CtR
end Go.Proofs.Ytddanjifhdaebaa.CtR
namespace Go.Proofs.Ytddanjifhdaebaa.CtR
open Go Go.CT CtF
variable [Yn]
theorem le3 {a:Nat} (h:a≤3):a=0∨a=1∨a=2∨a=3:=by omega
theorem subI (a b:Nat) (ha:a≤3) (hb:b≤3):decide (((a ||| b:Nat):Int)=(b:Int))=subL a b:=by
  rcases le3 ha with rfl | rfl | rfl | rfl<;>rcases le3 hb with rfl | rfl | rfl | rfl<;>decide
structure Up (l l' : List Int) : Prop where
  len:l'.length=l.length
  lab:lab3 l'
  le:∀ (i:Nat) (x x':Int),l[i]? = some x→l'[i]? = some x'→x≤x'
theorem Up.refl {l:List Int} (h:lab3 l):Up l l:=⟨rfl,h,fun i x x' a b=>by rw [a] at b;cases b;exact Int.le_refl _⟩
theorem Up.trans {a b c:List Int} (h:Up a b) (h':Up b c):Up a c :=
  ⟨h'.len.trans h.len,h'.lab,fun i x x' h1 h2=>by
    have hi:i<b.length:=by have:=(List.getElem?_eq_some_iff.1 h1).1;rw [h.len];exact this
    exact Int.le_trans (h.le i x b[i] h1 (by simp [hi])) (h'.le i b[i] x' (by simp [hi]) h2)⟩
theorem Up.set {l l':List Int} (h:Up l l') {i T n:Nat} (ht:l'[i]? = some (T:Int)) (hn:n≤3) (hT:T≤n):Up l (l'.set i (n:Int)) :=
  ⟨by rw [List.length_set,h.len],fun x hx=>by
    rcases List.mem_or_eq_of_mem_set hx with h1 | rfl
    · exact h.lab x h1
    · omega,fun j x x' h1 h2=>by
    rw [List.getElem?_set] at h2
    by_cases e:i=j
    · subst e
      have hlt:=(List.getElem?_eq_some_iff.1 ht).1
      rw [if_pos rfl,if_pos hlt] at h2
      cases h2
      have:=h.le i x T h1 ht
      omega
    · rw [if_neg e] at h2;exact h.le j x x' h1 h2⟩
end Go.Proofs.Ytddanjifhdaebaa.CtR
namespace Go.Proofs.Ytddanjifhdaebaa.CtD
open Go Go.CT CtF CtR
variable [Yn]
theorem stmtOK_len {p q:Pg} (h1:q.vars.length=p.vars.length) (h2:q.arrays.length=p.arrays.length):∀ (d:Nat) (s:St1),stmtOK q d s=stmtOK p d s:=by
  have hsh:∀ (d:Nat) (e:Ex),CtR.shape q d e=CtR.shape p d e:=by
    have hlim:∀ k,limit q k=limit p k:=fun k=>by simp only [limit,h1,h2]
    intro d
    induction d with
    | zero=>intro e;rfl
    | succ d ih =>
      intro e
      obtain ⟨k,v,ks⟩:=e
      have he:CtR.shape q d=CtR.shape p d:=funext ih
      simp only [CtR.shape,fitsE,hlim,he]
  have hr:∀ e,right q e=right p e:=fun e=>by simp only [right,hsh]
  intro d
  induction d with
  | zero=>intro s;rfl
  | succ d ih =>
    intro s
    obtain ⟨k,t,ix,v,c,b,e⟩:=s
    have h3:∀ l:List St1,l.all (stmtOK q d)=l.all (stmtOK p d):=fun l=>by congr 1;funext s;exact ih s
    simp only [stmtOK,headOK,hr,h1,h2,h3]
theorem DrP.up {p q:Pg} (h:DrP p) (h1:CtR.Up p.vars q.vars) (h2:CtR.Up p.arrays q.arrays) (h3:q.body=p.body):DrP q:=by
  refine ⟨?_,by rw [h1.len];exact h.nv,by rw [h2.len];exact h.na,by rw [h3];exact h.nb,by rw [h3];exact h.sm⟩
  have hok:=h.ok
  simp only [progOK,headsOK,Bool.and_eq_true,decide_eq_true_eq] at hok ⊢
  have hst:(stmtOK q 5)=stmtOK p 5:=funext fun s=>stmtOK_len h1.len h2.len 5 s
  refine ⟨⟨?_,by rw [h3,hst];exact hok.1.2⟩,by rw [h3];exact hok.2⟩
  have hl:∀ l:List Int,lab3 l→labs l=true:=fun l hl=>by
    simp only [labs,List.all_eq_true,Bool.and_eq_true,decide_eq_true_eq]
    exact hl
  obtain ⟨⟨⟨⟨g1,g2⟩,g3⟩,g4⟩,g5⟩:=hok.1.1
  rw [h1.len,h2.len]
  exact ⟨⟨⟨⟨g1,g2⟩,g3⟩,hl _ h1.lab⟩,hl _ h2.lab⟩
end Go.Proofs.Ytddanjifhdaebaa.CtD
namespace Go.Proofs.Ytddanjifhdaebaa.CtR
variable [Go.CT.Yn]
open Go Go.CT CtF
open Go Go.CT CtF
end Go.Proofs.Ytddanjifhdaebaa.CtR
namespace Go.Proofs.Ytddanjifhdaebaa.CtD
open Go Go.CT CtF CtR
variable [Yn]
end Go.Proofs.Ytddanjifhdaebaa.CtD
namespace Go.Proofs.Ytddanjifhdaebaa.CtR
variable [Go.CT.Yn]
open Go Go.CT CtF
end Go.Proofs.Ytddanjifhdaebaa.CtR
namespace Go.Proofs.Ytddanjifhdaebaa.CtR
open Go Go.CT CtF
variable [Yn]
theorem firstDifference (xs ys:List Ev) (hl:xs.length≤mx) (hl2:ys.length≤mx):DC Try.prog 112 [.c (trD xs),.c (trD ys)] [] (fun r h=>r=DI .i64 (fdif xs ys 0)∧h=[]):=by
  have hmx:=mx_eq
  have ret:∀ (n:Int) (hp:Hp),n=fdif xs ys 0→RetOb 0 (fun r h=>r=DI .i64 (fdif xs ys 0)∧h=[]) (DI .i64 n) hp:=fun n hp h=>RetOb.plain (d:=DI .i64 _) ⟨by rw [h],rfl⟩ rfl
  generalize hR:(fun (r:D) (h:List (Option (List C)))=>r=DI .i64 (fdif xs ys 0)∧h=[])=R at ret ⊢
  clear hR
  refine dcZ Try.func112 ?_
  simp only [go_sem,trD]
  ((try (refine drvZ Try.func112 ?_;simp only [go_sem,trD]));((with_reducible and_intros)<;>try exact sd))
  obtain ⟨M,hM,hM1,hM2,hM3⟩:∃ M:Nat,(if (xs.length:Int)<(ys.length:Int) then (ys.length:Int) else (xs.length:Int))=(M:Int)∧xs.length≤M∧ys.length≤M∧M≤mx∧(M≤xs.length∨M≤ys.length):=by
    by_cases h:(xs.length:Int)<(ys.length:Int)
    · exact ⟨ys.length,if_pos h,by omega,by omega,by omega,by omega⟩
    · exact ⟨xs.length,if_neg h,by omega,by omega,by omega,by omega⟩
  try simp only [Int.ofNat_lt] at hM
  try rw [hM]
  refine Go.loopQ (fun i:Nat=>[(0,.c (trD xs)),(1,.c (trD ys)),(10,DI .i64 M),(11,DI .i64 i)]) (fun _=>[]) 1024 (fun i=>i≤M∧fdif (xs.drop i) (ys.drop i) i=fdif xs ys 0) (fun i=>M - i) ?_ 0 some [] _ ⟨Nat.zero_le _,rfl⟩ ?_
  · intro i hi again
    have hI:=hi.2
    rcases Nat.lt_or_ge i M with hlt | hge
    · have hcs:(xs.length≤i)∨(i<xs.length∧ys.length≤i)∨(i<xs.length∧i<ys.length):=by omega
      rcases hcs with hx | ⟨hx,hy⟩ | ⟨hx,hy⟩
      · have hdx:xs.drop i=[]:=List.drop_of_length_le hx
        have hy:i<ys.length:=by omega
        rw [hdx,List.drop_eq_getElem_cons hy] at hI
        have hn:((xs.length:Int)≤(i:Int))=True:=eq_true (by omega)
        have hxn:xs[i]? = none:=List.getElem?_eq_none hx
        obtain ⟨y,hyy⟩:∃ y,ys[i]? = some y:=⟨ys[i],by simp [hy]⟩
        obtain ⟨yk,yv⟩:=y
        refine drvL Try.func112 ?_
        simp only [go_sem,trD,hlt]
        iterate 4 ((try (refine drvZ Try.func112 ?_;simp only [go_sem,trD,hlt,hn,hxn,hyy,Ev.cells]));((with_reducible and_intros)<;>try exact sd))
        exact ret _ _ (by rw [← hI];rfl)
      · have hdy:ys.drop i=[]:=List.drop_of_length_le hy
        rw [hdy,List.drop_eq_getElem_cons hx] at hI
        have hn:((xs.length:Int)≤(i:Int))=False:=eq_false (by omega)
        have hn2:((ys.length:Int)≤(i:Int))=True:=eq_true (by omega)
        have hyn:ys[i]? = none:=List.getElem?_eq_none hy
        obtain ⟨x,hxx⟩:∃ x,xs[i]? = some x:=⟨xs[i],by simp [hx]⟩
        obtain ⟨xk,xv⟩:=x
        refine drvL Try.func112 ?_
        simp only [go_sem,trD,hlt]
        iterate 4 ((try (refine drvZ Try.func112 ?_;simp only [go_sem,trD,hlt,hn,hn2,hyn,hxx,Ev.cells]));((with_reducible and_intros)<;>try exact sd))
        exact ret _ _ (by rw [← hI];rfl)
      · have hn:((xs.length:Int)≤(i:Int))=False:=eq_false (by omega)
        have hn2:((ys.length:Int)≤(i:Int))=False:=eq_false (by omega)
        obtain ⟨x,hxx⟩:∃ x,xs[i]? = some x:=⟨xs[i],by simp [hx]⟩
        obtain ⟨y,hyy⟩:∃ y,ys[i]? = some y:=⟨ys[i],by simp [hy]⟩
        rw [List.drop_eq_getElem_cons hx,List.drop_eq_getElem_cons hy,(List.getElem?_eq_some_iff.1 hxx).2,(List.getElem?_eq_some_iff.1 hyy).2] at hI
        obtain ⟨xk,xv⟩:=x
        obtain ⟨yk,yv⟩:=y
        simp only [fdif] at hI
        by_cases he:xk=yk∧xv=yv
        · obtain ⟨rfl,rfl⟩:=he
          rw [if_pos ⟨rfl,rfl⟩] at hI
          refine drvL Try.func112 ?_
          simp only [go_sem,trD,hlt]
          iterate 4 ((try (refine drvZ Try.func112 ?_;simp only [go_sem,trD,hlt,hn,hn2,hxx,hyy,Ev.cells]));((with_reducible and_intros)<;>try exact sd))
          refine again (i+1) some [] _ ⟨hlt,by rw [← hI];rfl⟩ (by omega) ?_
          simp only [go_sem,TmOK,DM,DMs,CM,CMs,forall_eq,exists_eq_left,Mq,HpOK,LowOK,trD]
          try simp
        · rw [if_neg he] at hI
          have hd:(decide (xk=yk) && decide (xv=yv))=false:=by
            cases h1:decide (xk=yk) with
            | false=>rfl
            | true =>
              cases h2:decide (xv=yv) with
              | false=>rfl
              | true=>exact absurd ⟨of_decide_eq_true h1,of_decide_eq_true h2⟩ he
          refine drvL Try.func112 ?_
          simp only [go_sem,trD,hlt]
          iterate 4 ((try (refine drvZ Try.func112 ?_;simp only [go_sem,trD,hlt,hn,hn2,hxx,hyy,Ev.cells,hd]));((with_reducible and_intros)<;>try exact sd))
          exact ret _ _ hI
    · have hn:¬ i<M:=by omega
      refine drvL Try.func112 ?_
      simp only [go_sem,trD,hn]
      iterate 2 ((try (refine drvZ Try.func112 ?_;simp only [go_sem,trD,hn]));((with_reducible and_intros)<;>try exact sd))
      have e1:xs.drop i=[]:=List.drop_of_length_le (by omega)
      have e2:ys.drop i=[]:=List.drop_of_length_le (by omega)
      exact ret _ _ (by rw [← hI,e1,e2];rfl)
  · simp only [go_sem,TmOK,DM,DMs,CM,CMs,forall_eq,exists_eq_left,Mq,HpOK,LowOK,trD]
    try simp
theorem fdif_ge : ∀ (xs ys : List Ev) (n : Int), 0 ≤ n → fdif xs ys n = -1 ∨ n ≤ fdif xs ys n
  | [],[],n,_ => .inl rfl
  | [],b :: r,n,_ => .inr (Int.le_refl _)
  | a :: r,[],n,_ => .inr (Int.le_refl _)
  | a :: r,b :: s,n,h=>by
    simp only [fdif]
    split
    · rcases fdif_ge r s (n+1) (by omega) with h1 | h1
      · exact .inl h1
      · exact .inr (by omega)
    · exact .inr (Int.le_refl _)
end Go.Proofs.Ytddanjifhdaebaa.CtR
namespace Go.Proofs.Ytddanjifhdaebaa.CtL
variable [Go.CT.Yn]
open Go Go.CT CtF CtR
def e0:Ex := .mk 0 0 []
theorem read_kid {p:Pg} {d:Nat} {v:Int} {ks:List Ex} (h:CtR.shape p (d+1) (.mk 3 v ks)=true):∃ a,ks=[a]∧CtR.shape p d a=true∧atom a=true∧0≤v∧v<p.arrays.length:=by
  obtain ⟨g1,g2,g3⟩:=shape_succ h
  obtain ⟨_,b,c,e⟩:=fits_len g1
  have g3:=g3 rfl
  match ks,b,g2,g3 with
  | [a],_,g2,g3=>exact ⟨a,rfl,g2 a (by simp),g3,c,by simpa [limit] using e⟩
  | [],b,_,_=>simp [arity] at b
  | _ :: _ :: r,b,_,_=>simp [arity] at b;omega
open Go Go.CT CtF CtR
theorem shape_form {p : Pg} {d : Nat} {k v : Int} {ks : List Ex} (h : CtR.shape p (d + 1) (.mk k v ks) = true) :
    ((k=1∧0≤v∧v<256∨k=2)∧ks=[])∨(∃ a,k=3∧ks=[a]∧CtR.shape p d a=true∧atom a=true)∨(∃ a b,4≤k∧k≤10∧ks=[a,b]∧CtR.shape p d a=true∧CtR.shape p d b=true)
    ∨ (∃ a b c,k=11∧ks=[a,b,c]∧CtR.shape p d a=true∧CtR.shape p d b=true∧CtR.shape p d c=true):=by
  obtain ⟨g1,g2,g3⟩:=shape_succ h
  obtain ⟨_,b,c,e⟩:=fits_len g1
  by_cases k1:k=1∨k=2
  · left
    have:ks.length=0:=by rcases k1 with rfl | rfl<;>simp [arity] at b<;>simpa using b
    refine ⟨?_,List.length_eq_zero_iff.1 this⟩
    rcases k1 with rfl | rfl
    · exact .inl ⟨rfl,c,by simpa [limit] using e⟩
    · exact .inr rfl
  by_cases k3:k=3
  · subst k3
    obtain ⟨a,h1,h2,h3,_⟩:=read_kid h
    exact .inr (.inl ⟨a,rfl,h1,h2,h3⟩)
  by_cases k4:4≤k∧k≤10
  · have:ks.length=2:=by
      have:arity k=2:=by unfold arity;rw [if_neg k1,if_neg k3,if_pos k4]
      omega
    match ks,this with
    | [x,y],_=>exact .inr (.inr (.inl ⟨x,y,k4.1,k4.2,rfl,g2 x (by simp),g2 y (by simp)⟩))
  by_cases k11:k=11
  · subst k11
    have:ks.length=3:=by simp [arity] at b;omega
    match ks,this with
    | [x,y,z],_=>exact .inr (.inr (.inr ⟨x,y,z,rfl,rfl,g2 x (by simp),g2 y (by simp),g2 z (by simp)⟩))
  · have:arity k = -1:=by unfold arity;rw [if_neg k1,if_neg k3,if_neg k4,if_neg k11]
    omega
open Go Go.CT CtF CtR
open Go Go.CT CtF CtR
def Ext (p:Pg) (vs:List Int):Prop:=∃ w,vs=p.vars++w
theorem Ext.more {p:Pg} {vs ws:List Int} (h:Ext p vs) (h2:∃ w,ws=vs++w):Ext p ws:=by
  obtain ⟨a,rfl⟩:=h
  obtain ⟨b,rfl⟩:=h2
  exact ⟨a++b,by simp⟩
theorem Ext.le {p:Pg} {vs:List Int} (h:Ext p vs):p.vars.length≤vs.length:=by
  obtain ⟨a,rfl⟩:=h
  simp
open Go Go.CT CtF CtR
open Go Go.CT CtF CtR
def Sub (a b:Nat):Prop:=∀ β,a.testBit β=true→b.testBit β=true
theorem Sub.refl (a:Nat):Sub a a:=fun _ h=>h
theorem Sub.trans {a b c:Nat} (h:Sub a b) (g:Sub b c):Sub a c:=fun β x=>g β (h β x)
theorem Sub.zero (a:Nat):Sub 0 a:=fun β h=>by simp at h
theorem Sub.or {a b c:Nat}:Sub (a ||| b) c ↔ Sub a c∧Sub b c:=by
  constructor
  · exact fun h=>⟨fun β x=>h β (by simp [x]),fun β x=>h β (by simp [x])⟩
  · rintro ⟨h1,h2⟩ β x
    rw [Nat.testBit_or,Bool.or_eq_true] at x
    exact x.elim (h1 β) (h2 β)
theorem Sub.left (a b:Nat):Sub a (a ||| b):=fun β h=>by simp [h]
theorem Sub.right (a b:Nat):Sub b (a ||| b):=fun β h=>by simp [h]
theorem Sub.l {a b c:Nat} (h:Sub a b):Sub a (b ||| c):=h.trans (Sub.left _ _)
theorem Sub.r {a b c:Nat} (h:Sub a c):Sub a (b ||| c):=h.trans (Sub.right _ _)
open Go Go.CT CtF CtR
open Go Go.CT CtF CtR
theorem none0_e0 {e:Ex} (h:none0 e=true):e=e0:=by
  obtain ⟨k,v,ks⟩:=e
  simp only [none0,Ex.kind,Ex.value,Ex.kids,Bool.and_eq_true,beq_iff_eq,List.isEmpty_iff] at h
  obtain ⟨⟨rfl,rfl⟩,rfl⟩:=h
  rfl
theorem head_parts {p : Pg} {k t : Int} {ix v : Ex} {c : Int} {b e : List St1} (h : headOK p k t ix v c b.length e.length = true) :
    (k=4→e=[]∧ix=e0∧v=e0)∧(k ≠ 4→c=0∧(k ≠ 2→ix=e0))∧(k ≠ 3→k ≠ 4→b=[]∧e=[])∧(k=3∨k=4→t=0):=by
  simp only [headOK,parts,blk,Bool.and_eq_true] at h
  obtain ⟨⟨h1,h2⟩,_⟩:=h
  refine ⟨fun hk=>?_,fun hk=>?_,fun h3 h4=>?_,fun hk=>?_⟩
  · rw [if_pos hk] at h2
    simp only [Bool.and_eq_true,beq_iff_eq] at h2
    exact ⟨List.length_eq_zero_iff.1 (by omega),none0_e0 h2.1.2,none0_e0 h2.2⟩
  · rw [if_neg hk] at h2
    simp only [Bool.and_eq_true,beq_iff_eq,Bool.or_eq_true] at h2
    exact ⟨h2.1,fun h=>none0_e0 (h2.2.resolve_left h)⟩
  · have e1:(k == 3)=false:=by simpa using h3
    have e2:(k == 4)=false:=by simpa using h4
    have:b.length=0∧e.length=0:=by
      cases b<;>cases e<;>simp_all
    exact ⟨List.length_eq_zero_iff.1 this.1,List.length_eq_zero_iff.1 this.2⟩
  · have:(k == 3 || k == 4)=true:=by rcases hk with rfl | rfl<;>rfl
    rw [this] at h1
    simpa using h1
open Go Go.CT CtF CtR
open Go Go.CT CtF CtR
open Go Go.CT CtF CtR
structure In where
  op:Int
  a:Int
  b:Int
  c:Int
  d:Int
structure Cd where
  vars:List Int
  arrays:List Int
  list:List In
structure Mc where
  pc:Nat
  regs:List Int
  mem:Mm
def halt:In:=⟨13,0,0,0,0⟩
def stepM (x:In) (s:Mc):Mc × List Ev :=
  if x.op=1 then (⟨s.pc+1,s.regs.set x.a.toNat x.b,s.mem⟩,[⟨5,s.pc⟩])
  else if x.op=2 then (⟨s.pc+1,s.regs.set x.a.toNat (nth s.mem.vals x.b),s.mem⟩,[⟨5,s.pc⟩])
  else if x.op=3 then (⟨s.pc+1,s.regs,setV s.mem x.a (nth s.regs x.b)⟩,[⟨5,s.pc⟩])
  else if x.op=4 then (⟨s.pc+1,s.regs.set x.a.toNat (nth (arrAt s.mem x.b) (nth s.regs x.c % 4)),s.mem⟩,[⟨5,s.pc⟩,⟨2,x.b * 4+nth s.regs x.c % 4⟩])
  else if x.op=5 then (⟨s.pc+1,s.regs,setA s.mem x.a (nth s.regs x.b % 4) (nth s.regs x.c)⟩,[⟨5,s.pc⟩,⟨3,x.a * 4+nth s.regs x.b % 4⟩])
  else if x.op=6 then (⟨s.pc+1,s.regs.set x.a.toNat (bin x.b (nth s.regs x.c) (nth s.regs x.d)),s.mem⟩,[⟨5,s.pc⟩])
  else if x.op=7 then (⟨s.pc+1,s.regs.set x.a.toNat (if nth s.regs x.b ≠ 0 then nth s.regs x.c else nth s.regs x.d),s.mem⟩,[⟨5,s.pc⟩])
  else if x.op=8 then (⟨x.a.toNat,s.regs,s.mem⟩,[⟨5,s.pc⟩])
  else if x.op=9 then (⟨if nth s.regs x.a=0 then x.b.toNat else s.pc+1,s.regs,s.mem⟩,[⟨5,s.pc⟩])
  else if x.op=10 then (⟨if (nth s.regs x.a+255) % 256 ≠ 0 then x.b.toNat else s.pc+1,s.regs.set x.a.toNat ((nth s.regs x.a+255) % 256),s.mem⟩,[⟨5,s.pc⟩])
  else if x.op=11 then (⟨s.pc+1,s.regs,s.mem⟩,[⟨5,s.pc⟩,⟨4,nth s.regs x.a⟩])
  else if x.op=13 then (s,[⟨5,s.pc⟩])
  else (⟨s.pc+1,s.regs,s.mem⟩,[⟨5,s.pc⟩])
def atC (C:List In) (i:Nat):In:=C.getD i halt
def runM (C : List In) : Nat → Mc → Option (Mm × List Ev)
  | 0,_=>none
  | n + 1, s => if (atC C s.pc).op = 13 then some ((stepM (atC C s.pc) s).1.mem, (stepM (atC C s.pc) s).2)
    else (runM C n (stepM (atC C s.pc) s).1).map fun q=>(q.1,(stepM (atC C s.pc) s).2++q.2)
def stp (X:List Ev):Nat:=X.countP fun e=>e.kind == 5
def seqE (f : Ex → Nat → List In) : Nat → List Ex → List In
  | _,[]=>[]
  | n,e :: r=>f e n++seqE f (n+1) r
def lastE (k v:Int) (n:Nat):In :=
  if k=3 then ⟨4,n,v,n,0⟩ else if k=11 then ⟨7,n,n,(n:Int)+1,(n:Int)+2⟩ else ⟨6,n,k,n,(n:Int)+1⟩
def kE : Nat → Ex → Nat → List In
  | 0,_,_=>[]
  | d+1,.mk k v ks,n=>if k=1 then [⟨1,n,v,0,0⟩] else if k=2 then [⟨2,n,v,0,0⟩] else seqE (kE d) n ks++[lastE k v n]
theorem seqE_snoc (f : Ex → Nat → List In) : ∀ (l : List Ex) (n : Nat) (e : Ex), seqE f n (l ++ [e]) = seqE f n l ++ f e (n + l.length)
  | [],n,e=>by simp [seqE]
  | a :: r,n,e=>by
    simp only [List.cons_append,seqE,seqE_snoc f r,List.append_assoc,List.length_cons]
    rw [show n+1+r.length=n+(r.length+1) by omega]
theorem seqE_len {p : Pg} {d : Nat} : ∀ (l : List Ex) (n : Nat), (∀ e ∈ l, ∀ n, (kE d e n).length = cnt d e) → (seqE (kE d) n l).length = (l.map (cnt d)).sum
  | [],n,_=>rfl
  | a :: r,n,h=>by
    simp only [seqE,List.length_append,List.map_cons,List.sum_cons]
    rw [h a (by simp),seqE_len (p:=p) r (n+1) fun e he=>h e (by simp [he])]
theorem kE_len {p : Pg} : ∀ (d : Nat) (e : Ex), CtR.shape p d e = true → ∀ n, (kE d e n).length = cnt d e
  | 0,_,h,_=>by simp [CtR.shape] at h
  | d+1,.mk k v ks,h,n=>by
    obtain ⟨g1,g2,g3⟩:=shape_succ h
    rcases shape_form h with ⟨hk,rfl⟩ | ⟨a,rfl,rfl,ha,hat⟩ | ⟨a,b,k4,k10,rfl,ha,hb⟩ | ⟨a,b,c,rfl,rfl,ha,hb,hc⟩
    · rcases hk with ⟨rfl,_⟩ | rfl<;>simp [kE,cnt]
    all_goals
      rw [kE,if_neg (by omega),if_neg (by omega),List.length_append,seqE_len (p:=p) _ _ fun e he n=>kE_len d e (g2 e he) n]
      simp only [cnt,List.length_singleton];omega
open Go Go.CT CtF CtR
def lenS : Nat → St1 → Nat
  | 0,_=>0
  | d + 1, .mk k t ix v c b e => if k = 4 then (b.map (lenS d)).sum + 2 else if k = 1 then cnt 5 v + 1 else if k = 5 then cnt 5 v + 2
      else if k=2 then cnt 5 v+cnt 5 ix+1 else cnt 5 v+(b.map (lenS d)).sum+(e.map (lenS d)).sum+2
def lenL (d:Nat) (l:List St1):Nat:=(l.map (lenS d)).sum
def seqS (f : Nat → St1 → List In) (len : St1 → Nat) : Nat → List St1 → List In
  | _,[]=>[]
  | b,s :: r=>f b s++seqS f len (b+len s) r
def cS : Nat → Nat → Nat → St1 → List In
  | 0,_,_,_=>[]
  | d+1,dep,b,.mk k t ix v c bd el =>
    if k=4 then ⟨1,9+dep,c,0,0⟩ :: (seqS (cS d (dep+1)) (lenS d) (b+1) bd++[⟨10,9+dep,(b+1:Nat),0,0⟩])
    else if k=1 then kE 5 v 0++[⟨3,t,0,0,0⟩]
    else if k=5 then kE 5 v 0++[⟨11,0,0,0,0⟩,⟨3,t,0,0,0⟩]
    else if k=2 then kE 5 v 0++(kE 5 ix 1++[⟨5,t,1,0,0⟩])
    else kE 5 v 0 ++ (⟨9, 0, (b + cnt 5 v + lenL d bd + 2 : Nat), 0, 0⟩ :: (seqS (cS d (dep + 1)) (lenS d) (b + cnt 5 v + 1) bd ++
      (⟨8,(b+cnt 5 v+lenL d bd+lenL d el+2:Nat),0,0,0⟩ :: seqS (cS d (dep+1)) (lenS d) (b+cnt 5 v+lenL d bd+2) el)))
def cL (d dep b:Nat) (l:List St1):List In:=seqS (cS d dep) (lenS d) b l
theorem seqS_snoc (f : Nat → St1 → List In) (len : St1 → Nat) : ∀ (l : List St1) (b : Nat) (s : St1), seqS f len b (l ++ [s]) = seqS f len b l ++ f (b + (l.map len).sum) s
  | [],b,s=>by simp [seqS]
  | a :: r,b,s=>by
    simp only [List.cons_append,seqS,seqS_snoc f len r,List.append_assoc,List.map_cons,List.sum_cons,Nat.add_assoc]
theorem seqS_len {f : Nat → St1 → List In} {len : St1 → Nat} : ∀ (l : List St1) (b : Nat), (∀ s ∈ l, ∀ b, (f b s).length = len s) → (seqS f len b l).length = (l.map len).sum
  | [],b,_=>rfl
  | a :: r,b,h=>by
    simp only [seqS,List.length_append,List.map_cons,List.sum_cons]
    rw [h a (by simp),seqS_len r _ fun s hs=>h s (by simp [hs])]
theorem cS_len {p : Pg} : ∀ (d : Nat) (s : St1), stmtOK p d s = true → ∀ dep b, (cS d dep b s).length = lenS d s
  | 0,_,h,_,_=>by simp [stmtOK] at h
  | d+1,.mk k t ix v c bd el,h,dep,b=>by
    obtain ⟨hh,hb,he⟩:=stmtOK_succ h
    have eb:=fun b=>seqS_len (f:=cS d (dep+1)) bd b fun s hs b=>cS_len d s (hb s hs) (dep+1) b
    have ee:=fun b=>seqS_len (f:=cS d (dep+1)) el b fun s hs b=>cS_len d s (he s hs) (dep+1) b
    rcases head_kind hh with ⟨hk,ht0,ht1,hr⟩ | ⟨rfl,ht0,ht1,hri,hai,hr⟩ | ⟨rfl,hr⟩ | ⟨rfl,hc1,hc3⟩
    · have:=kE_len 5 v (right_shape hr).1 0
      rcases hk with rfl | rfl<;>simp [cS,lenS,this]
    · have h1:=kE_len 5 v (right_shape hr).1 0
      have h2:=kE_len 5 ix (right_shape hri).1 1
      simp [cS,lenS,h1,h2];omega
    · have h1:=kE_len 5 v (right_shape hr).1 0
      simp [cS,lenS,h1,eb,ee];omega
    · simp [cS,lenS,eb]
theorem cL_len {p:Pg} {d dep b:Nat} {l:List St1} (h:∀ s ∈ l,stmtOK p d s=true):(cL d dep b l).length=lenL d l:=seqS_len l b fun s hs b=>cS_len d s (h s hs) dep b
open Go Go.CT CtF CtR
open Go Go.CT CtF CtR
def kindsOf (op:Int):List Nat :=
  if op=1 then [1,2,0,0] else if op=2 then [1,3,0,0] else if op=3 then [3,1,0,0] else if op=4 then [1,4,1,0] else if op=5 then [4,1,1,0]
  else if op=6 then [1,5,1,1] else if op=7 then [1,1,1,1] else if op=8 then [6,0,0,0] else if op=9 then [1,6,0,0] else if op=10 then [1,6,0,0]
  else if op=11 then [1,0,0,0] else [0,0,0,0]
def topOf (nv na nl:Nat) (k:Nat):Int:=if k=0 then 0 else if k=1 then 13 else if k=2 then 255 else if k=3 then (nv:Int) - 1 else if k=4 then (na:Int) - 1 else if k=5 then 10 else (nl:Int) - 1
def fOK (nv na nl:Nat) (k:Nat) (n:Int):Bool:=decide ((if k=5 then 4 else 0)≤n) && decide (n≤topOf nv na nl k)
def inOK (nv na nl:Nat) (x:In):Bool:=decide (1≤x.op) && decide (x.op≤13) && fOK nv na nl ((kindsOf x.op).getD 0 0) x.a && fOK nv na nl ((kindsOf x.op).getD 1 0) x.b && fOK nv na nl ((kindsOf x.op).getD 2 0) x.c && fOK nv na nl ((kindsOf x.op).getD 3 0) x.d
def endOK (l:List In):Bool:=(atC l (l.length - 1)).op == 13 || (atC l (l.length - 1)).op == 8
def codeOK (c:Cd):Bool:=headsOK c.vars c.arrays && decide (1≤(c.list.length:Int)) && decide ((c.list.length:Int)≤400) && c.list.all (inOK c.vars.length c.arrays.length c.list.length) && endOK c.list
def runC (c:Cd) (m:Mm):Mm × List Ev × Bool :=
  if codeOK c && memOK c.vars c.arrays m then (match runM c.list 20000 ⟨0,List.replicate 14 0,m⟩ with | some q=>(q.1,q.2,true) | none=>(⟨[],[]⟩,[],false)) else (⟨[],[]⟩,[],false)
def compL (p:Pg):List In:=cL 5 0 0 p.body++[halt]
def compP (p:Pg):Cd × Bool:=if progOK p=true∧lenL 5 p.body+1≤400 then (⟨p.vars,p.arrays,compL p⟩,true) else (⟨[],[],[]⟩,false)
theorem compL_len {p:Pg} (h:progOK p=true):(compL p).length=lenL 5 p.body+1:=by
  rw [compL,List.length_append,cL_len (body_of h).1];rfl
end Go.Proofs.Ytddanjifhdaebaa.CtL
