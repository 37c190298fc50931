/- A contract that holds whatever slices stand in its arguments serves blocks that somebody owns: they stay the owner's. -/
import Derived.Test.YtfkhahkclgejnaaGreatDoorGAj
set_option linter.unusedVariables false
set_option linter.unusedSimpArgs false
set_option linter.unusedSectionVars false
set_option maxHeartbeats 16000000
set_option maxRecDepth 100000
namespace Go.CT
variable [Yn]
structure Sl where
  a:Option Addr
  length:Nat
  cap:Nat
def Sl.c (x:Sl):C := .v (.slice x.a x.length x.cap)
attribute [go_sem] Sl.c
def kb (n : Nat) : C → Bool
  | .msl k _ _ _=>decide (k<n)
  | .ptr k _=>decide (k<n)
  | .clo _ _=>false
  | _=>true
def kbD (n : Nat) : D → Bool
  | .c c=>kb n c
  | .agg cs=>cs.all (kb n)
  | _=>false
theorem RC.cut {I:Nat→Prop} {w:World} {s s1:Sg} {n:Nat} (hs:∀ k,k<n→s1 k=s k) {x:Value} {c:C} (h:RC I w s x c) (hk:kb n c=true):RC I w s1 x c:=by
  cases h with
  | msl0 _ a k sz h=>exact .msl0 _ a k sz (by rw [hs k (by simpa [kb] using hk)];exact h)
  | msl _ k b sz off len cap arr T fr h hlen hb hcap=>exact .msl _ k b sz off len cap arr T fr (by rw [hs k (by simpa [kb] using hk)];exact h) hlen hb hcap
  | ptr _ k b off h=>exact .ptr _ k b off (by rw [hs k (by simpa [kb] using hk)];exact h)
  | clo _ f caps vs hl hr=>simp [kb] at hk
  | v _ x h1=>exact .v _ _ h1
  | unk _ x h1=>exact .unk _ _ h1
  | z _ a=>exact .z _ a
  | isl0 _ a cap sz=>exact .isl0 _ a cap sz
  | isl _ b off cap sz xs y hIb hl hc hr hcap=>exact .isl _ b off cap sz xs y hIb hl hc hr hcap
  | num _ k n=>exact .num _ k n
  | csl0 _ a cap sz y=>exact .csl0 _ a cap sz y
  | csl _ b off len cap sz xs y h hN=>exact .csl _ b off len cap sz xs y (h.isl_any _) hN
  | eptr _ b off cs y hIb hc hr=>exact .eptr _ b off cs y hIb hc hr
  | met _ f cs vs hl hr=>exact .met _ f cs vs hl hr
theorem RD.cut {I:Nat→Prop} {w:World} {s s1:Sg} {n:Nat} (hs:∀ k,k<n→s1 k=s k) {x:Value} {d:D} (h:RD I w s x d) (hk:kbD n d=true):RD I w s1 x d:=by
  cases h with
  | c _ c h=>exact .c _ _ (h.cut hs hk)
  | agg vs cs hl hr =>
    simp only [kbD,List.all_eq_true] at hk
    exact .agg vs cs hl fun j h1 h2=>(hr j h1 h2).cut hs (hk _ (List.getElem_mem h2))
  | _=>simp [kbD] at hk
theorem RC.lit {I:Nat→Prop} {w:World} {s s1:Sg} {x:Value} {k sz off len:Nat} (h:RC I w s x (.msl k sz off len)):∃ y:Sl,y.length=len∧RC I w s1 x y.c:=by
  cases h with
  | msl0 _ a _ _ h=>exact ⟨⟨a,0,0⟩,rfl,.v _ _ rfl⟩
  | msl _ _ b _ _ _ cap arr T fr h hlen hb hcap=>exact ⟨⟨some ⟨b,off,none⟩,len,cap⟩,rfl,.v _ _ rfl⟩
def cutS (n:Nat) (s:Sg):Sg:=fun k=>if k<n then s k else none
theorem DC.lit {P : Program} {F : FuncId} {args' : List D} {h hB : List (Option (List C))} {Q : List D → Prop} {R : D → List (Option (List C)) → Prop}
    (hA:∀ (I:Nat→Prop) (w:World) (s:Sg) (vs:Array Value),RDs I w s vs args'→∃ args,Q args∧RDs I w (cutS h.length s) vs args) (hD:∀ args,Q args→DC P F args h R)
    (hk:∀ cs,some cs ∈ h→∀ c ∈ cs,kf c=true) (hR:∀ d h',R d h'→h'.length=h.length):DC P F args' (h++hB) (fun d h'=>∃ h0,R d h0∧h'=h0++hB):=fun I w s vs H hv=>by
  obtain ⟨args,hq,hv1⟩:=hA I w s vs hv
  have c1:∀ k,k<h.length→cutS h.length s k=s k:=fun k hk=>by simp [cutS,hk]
  have g1:∀ k,k<h.length→hpL (h++hB) k=hpL h k:=fun k hk=>by simp [hpL,List.getElem?_append_left hk]
  have lt:∀ (l:List (Option (List C))) k x,hpL l k=some x→k<l.length:=fun l k x hh=>(List.getElem?_eq_some_iff.1 hh).1
  have up:∀ b,Live (cutS h.length s) (hpL h) b→Live s (hpL (h++hB)) b:=by
    rintro b ⟨k,cs,h1,h2⟩
    have:=lt _ _ _ h1
    exact ⟨k,cs,by rw [g1 k this];exact h1,by rw [← c1 k this];exact h2⟩
  have H1:SimH I w (cutS h.length s) (hpL h):=by
    refine ⟨fun k hk=>?_,fun k cs hh=>?_,fun k k' b cs cs' h1 h2 h3 h4=>?_,H.imm,⟨H.yng.1,fun b hb=>H.yng.2.1 b (up b hb),H.yng.2.2⟩,H.wri⟩
    · have:¬ k<h.length:=fun q=>by simp [hpL,q] at hk
      simp [cutS,this]
    · have hl:=lt _ _ _ hh
      rw [c1 k hl]
      rcases H.blk k cs (by rw [g1 k hl];exact hh) with q | ⟨b,arr,T,q1,q2,q3,q4,q5⟩
      · exact .inl q
      · refine .inr ⟨b,arr,T,q1,q2,q3,q4,fun j hj=>?_⟩
        obtain ⟨y,hy,hr⟩:=q5 j hj
        exact ⟨y,hy,hr.keyfree (hk cs (List.mem_of_getElem? hh) _ (List.getElem_mem hj)) (fun _ h=>h) _⟩
    · have l1:=lt _ _ _ h1
      have l2:=lt _ _ _ h2
      exact H.inj k k' b cs cs' (by rw [g1 k l1];exact h1) (by rw [g1 k' l2];exact h2) (by rw [← c1 k l1];exact h3) (by rw [← c1 k' l2];exact h4)
  refine (hD args hq I w _ vs H1 hv1).mono ?_
  rintro e w' ⟨v,I',s',d,h0,rfl,hR0,hrd,hH,hE,hl⟩
  have hlen:=hR d h0 hR0
  have sk:∀ k,k<h.length→s' k=s k:=fun k hk=>by rw [hE.key k hk,c1 k hk]
  have hle:s'.le s:=fun k x hx=>by
    rcases Nat.lt_or_ge k h.length with q | q
    · rw [← sk k q];exact hx
    · rw [hH.top k (List.getElem?_eq_none (by omega))] at hx;cases hx
  have e0:∀ k,k<h.length→hpL (h0++hB) k=hpL h0 k:=fun k hk=>by simp [hpL,List.getElem?_append_left (show k<h0.length by omega)]
  have e1:∀ k,h.length≤k→hpL (h0++hB) k=hpL (h++hB) k:=fun k hk=>by
    simp only [hpL]
    rw [List.getElem?_append_right (by omega),List.getElem?_append_right hk,hlen]
  have nl:∀ k cs b,h.length≤k→hpL (h++hB) k=some (some cs)→s k=some (some b)→b<w.heap.size∧¬ Live (cutS h.length s) (hpL h) b:=fun k cs b hk hh hs=>by
    refine ⟨(H.live_lt ⟨k,cs,hh,hs⟩).1,?_⟩
    rintro ⟨k2,cs2,q1,q2⟩
    have l2:=lt _ _ _ q1
    have:=H.inj k k2 b cs cs2 hh (by rw [g1 k2 l2];exact q1) hs (by rw [← c1 k2 l2];exact q2)
    omega
  have lv:∀ b,Live s (hpL (h0++hB)) b→Live s' (hpL h0) b∨Live s (hpL (h++hB)) b:=by
    rintro b ⟨k,cs,q1,q2⟩
    rcases Nat.lt_or_ge k h.length with q | q
    · exact .inl ⟨k,cs,by rw [← e0 k q];exact q1,by rw [sk k q];exact q2⟩
    · exact .inr ⟨k,cs,by rw [← e1 k q];exact q1,q2⟩
  have lv2:∀ b,Live s (hpL (h0++hB)) b→Live s (hpL (h++hB)) b∨w.heap.size≤b:=fun b hb=>by
    rcases lv b hb with q | q
    · exact (hE.live b q).imp (up b) id
    · exact .inl q
  refine ⟨v,I',s,d,h0++hB,rfl,⟨h0,hR0,rfl⟩,hrd.mono (fun _ h=>h) (fun _ _=>rfl) (Shp.refl _) hle,
    ⟨fun k hk=>?_,fun k cs hh=>?_,fun k k' b cs cs' h1 h2 h3 h4=>?_,hH.imm,⟨hH.yng.1,fun b hb=>(lv b hb).elim (hH.yng.2.1 b) (H.yng.2.1 b),hH.yng.2.2⟩,hH.wri⟩,
    ⟨hE.os,hE.tape,hE.output,hE.size,fun b hb hn=>hE.same b hb fun q=>hn (up b q),hE.shp,fun _ _=>rfl,hE.imm,fun b hb=>(hE.imm' b hb).imp id (Or.imp (up b) id),lv2⟩,by simp [hlen]⟩
  · refine H.top k ?_
    simp only [hpL,List.getElem?_eq_none_iff,List.length_append] at hk ⊢
    omega
  · rcases Nat.lt_or_ge k h.length with q | q
    · rw [e0 k q] at hh
      rcases hH.blk k cs hh with ⟨a1,a2⟩ | ⟨b,arr,T,q1,q2,q3,q4,q5⟩
      · exact .inl ⟨by rw [← sk k q];exact a1,a2⟩
      · refine .inr ⟨b,arr,T,by rw [← sk k q];exact q1,q2,q3,q4,fun j hj=>?_⟩
        obtain ⟨y,hy,hr⟩:=q5 j hj
        exact ⟨y,hy,hr.mono (fun _ h=>h) (fun _ _=>rfl) (Shp.refl _) hle⟩
    · rw [e1 k q] at hh
      rcases H.blk k cs hh with a1 | ⟨b,arr,T,q1,q2,q3,q4,q5⟩
      · exact .inl a1
      · obtain ⟨n1,n2⟩:=nl k cs b q hh q1
        refine .inr ⟨b,arr,T,q1,by rw [hE.same b n1 n2];exact q2,q3,fun hI=>?_,fun j hj=>?_⟩
        · rcases hE.imm' b hI with z | z | z
          · exact q4 z
          · exact n2 z
          · omega
        · obtain ⟨y,hy,hr⟩:=q5 j hj
          exact ⟨y,hy,hr.mono hE.imm (hE.keeps H1) hE.shp (Sg.le_refl _)⟩
  · have mix:∀ k k' cs cs',k<h.length→h.length≤k'→hpL (h0++hB) k=some (some cs)→hpL (h0++hB) k'=some (some cs')→s k=some (some b)→s k'=some (some b)→False:=fun k k' cs cs' q q' h1 h2 h3 h4=>by
      rw [e1 k' q'] at h2
      obtain ⟨n1,n2⟩:=nl k' cs' b q' h2 h4
      rcases hE.live b ⟨k,cs,by rw [← e0 k q];exact h1,by rw [sk k q];exact h3⟩ with z | z
      · exact n2 z
      · omega
    rcases Nat.lt_or_ge k h.length with q | q<;>rcases Nat.lt_or_ge k' h.length with q' | q'
    · exact hH.inj k k' b cs cs' (by rw [← e0 k q];exact h1) (by rw [← e0 k' q'];exact h2) (by rw [sk k q];exact h3) (by rw [sk k' q'];exact h4)
    · exact (mix k k' cs cs' q q' h1 h2 h3 h4).elim
    · exact (mix k' k cs' cs q' q h2 h1 h4 h3).elim
    · exact H.inj k k' b cs cs' (by rw [← e1 k q];exact h1) (by rw [← e1 k' q'];exact h2) h3 h4
theorem lit2 {n : Nat} {d0 : D} {kx ky lx ly : Nat} {cr : List C} {dr : List D} (h0 : kbD n d0 = true) (hr : cr.all (kb n) = true) (hd : dr.all (kbD n) = true) :
    ∀ (I:Nat→Prop) (w:World) (s:Sg) (vs:Array Value),RDs I w s vs (d0 :: .agg (.msl kx 1 0 lx :: .msl ky 1 0 ly :: cr) :: dr) →
    ∃ args,(∃ x y:Sl,x.length=lx∧y.length=ly∧args=d0 :: .agg (x.c :: y.c :: cr) :: dr)∧RDs I w (cutS n s) vs args:=fun I w s vs hv=>by
  have c1:∀ k,k<n→cutS n s k=s k:=fun k hk=>by simp [cutS,hk]
  have hsz:=hv.1
  simp only [List.length_cons] at hsz
  have h1:=hv.2 1 (by omega) (by simp)
  simp only [List.getElem_cons_succ,List.getElem_cons_zero] at h1
  cases hx:vs[1]'(by omega) with
  | agg us =>
    rw [hx] at h1
    cases h1 with
    | agg _ _ hl hc =>
      simp only [List.length_cons] at hl
      obtain ⟨x,ex,rx⟩:=(show RC I w s _ (.msl kx 1 0 lx) from hc 0 (by omega) (by simp)).lit (s1:=cutS n s)
      obtain ⟨y,ey,ry⟩:=(show RC I w s _ (.msl ky 1 0 ly) from hc 1 (by omega) (by simp)).lit (s1:=cutS n s)
      refine ⟨_,⟨x,y,ex,ey,rfl⟩,by simpa using hv.1,fun j g1 g2=>?_⟩
      match j,g1,g2 with
      | 0,g1,g2=>exact (show RD I w s _ d0 from hv.2 0 g1 (by simp)).cut c1 h0
      | 1,g1,g2 =>
        simp only [List.getElem_cons_succ,List.getElem_cons_zero]
        rw [hx]
        refine .agg us _ (by simp;omega) fun i i1 i2=>?_
        match i,i1,i2 with
        | 0,_,_=>exact rx
        | 1,_,_=>exact ry
        | i+2,i1,i2 =>
          have:=hc (i+2) i1 (by simpa using i2)
          simp only [List.getElem_cons_succ] at this ⊢
          exact this.cut c1 (List.all_eq_true.1 hr _ (List.getElem_mem _))
      | j+2,g1,g2 =>
        have:=hv.2 (j+2) g1 (by simpa using g2)
        simp only [List.getElem_cons_succ] at this ⊢
        exact this.cut c1 (List.all_eq_true.1 hd _ (List.getElem_mem _))
  | _=>rw [hx] at h1;cases h1
end Go.CT
namespace Go.CT
open Go.RowKit
section
variable [Yn]
theorem shp_below {w w':World} (hb:Below w.heap.size w w'):Shp w w':=fun b arr T fr hbk=>⟨arr,by rw [hb.block b (lt_of_heap hbk)];exact hbk,rfl⟩
theorem DC.ofBelow {P : Program} {F : FuncId} {args : List D} {v : Value} (h1 : one v = true)
    (hc:∀ (I:Nat→Prop) (w:World) (s:Sg) (vs:Array Value),SimH I w s (hpL [])→RDs I w s vs args→Calls P F vs w fun e w'=>e = .returned v∧Below w.heap.size w w'):DC P F args [] (fun r h=>r = .c (.v v)∧h=[]):=fun I w s vs H hv=>by
  refine (hc I w s vs H hv).mono ?_
  rintro e w' ⟨rfl,hb⟩
  exact ⟨v,I,s,.c (.v v),[],rfl,⟨rfl,rfl⟩,.c _ _ (.v _ _ h1),⟨H.top,fun k cs hk=>by simp [hpL] at hk,fun k k' b cs cs' h=>by simp [hpL] at h,fun b hb'=>Nat.lt_of_lt_of_le (H.imm b hb') hb.size,
      H.yng.step hb.size (fun b hlt=>hb.block b (Nat.lt_of_lt_of_le hlt H.yng.1)) (fun b h => .inl h),H.wri.step (shp_below hb)⟩,
    ⟨hb.os,hb.tape,hb.output,hb.size,fun b hlt _=>hb.block b hlt,shp_below hb,fun _ _=>rfl,fun _ h=>h,fun _ h => .inl h,fun _ h => .inl h⟩,Nat.le_refl _⟩
end
abbrev ynAt (w:World):Yn:=⟨w.heap.size,fun b=>w.heap[b]?⟩
theorem DC.calls {P : Program} {F : FuncId} {args : List D} {v : Value} {w : World} {vs : Array Value} (hD : @DC (ynAt w) P F args [] (fun r h => r = .c (.v v) ∧ h = [])) (hv : ∀ s, @RDs (ynAt w) (fun b => b < w.heap.size) w s vs args) :
    Calls P F vs w fun e w'=>e = .returned v∧Below w.heap.size w w':=by
  letI:Yn:=ynAt w
  refine (hD (fun b=>b<w.heap.size) w (fun _=>none) vs ⟨fun _ _=>rfl,fun k cs hk=>by simp [hpL] at hk,fun k k' b cs cs' hk=>by simp [hpL] at hk,fun b hb=>hb,⟨Nat.le_refl _,fun b ⟨k,cs,hk,_⟩=>by simp [hpL] at hk,fun b _=>rfl⟩,fun b hb hn=>absurd hb (Nat.not_lt.2 hn)⟩ (hv _)).mono fun e w' ⟨x,I',s',d,h',he,⟨hd,_⟩,hrd,_,hE,_⟩=>?_
  subst hd
  cases hrd with
  | c _ _ hc=>cases hc with | v _ _ _=>exact ⟨he,hE.os,hE.tape,hE.output,hE.size,fun k hk=>hE.same k hk fun ⟨j,cs,hj,_⟩=>by simp [hpL] at hj⟩
theorem rds_ints {y:Yn} {I:Nat→Prop} {w:World} {s:Sg} (xs:List Int) : @RDs y I w s #[.agg ((xs.map (Value.int .i64)).toArray)] [.agg (xs.map fun n => .v (.int .i64 n))]:=by
  refine ⟨rfl,fun j h1 h2=>?_⟩
  have:j=0:=by simpa using h1
  subst this
  refine .agg _ _ (by simp) fun i g1 g2=>?_
  simp only [List.getElem_toArray,List.getElem_map]
  exact .v _ _ rfl
section
variable [Yn]
theorem DC.ofBelowD {P : Program} {F : FuncId} {args : List D} {R : D → Prop}
    (hc:∀ (I:Nat→Prop) (w:World) (s:Sg) (vs:Array Value),SimH I w s (hpL [])→RDs I w s vs args→Calls P F vs w fun e w'=>∃ v d,e = .returned v∧R d∧(∀ s,RD I w' s v d)∧Below w.heap.size w w'):DC P F args [] (fun r h=>R r∧h=[]):=fun I w s vs H hv=>by
  refine (hc I w s vs H hv).mono ?_
  rintro e w' ⟨v,d,rfl,hR,hd,hb⟩
  exact ⟨v,I,s,d,[],rfl,⟨hR,rfl⟩,hd s,⟨H.top,fun k cs hk=>by simp [hpL] at hk,fun k k' b cs cs' h=>by simp [hpL] at h,fun b hb'=>Nat.lt_of_lt_of_le (H.imm b hb') hb.size,
      H.yng.step hb.size (fun b hlt=>hb.block b (Nat.lt_of_lt_of_le hlt H.yng.1)) (fun b h => .inl h),H.wri.step (shp_below hb)⟩,
    ⟨hb.os,hb.tape,hb.output,hb.size,fun b hlt _=>hb.block b hlt,shp_below hb,fun _ _=>rfl,fun _ h=>h,fun _ h => .inl h,fun _ h => .inl h⟩,Nat.le_refl _⟩
theorem DC.ofBelowN {P : Program} {F : FuncId} {args : List D} {R : D → Prop}
    (hc:∀ (I:Nat→Prop) (w:World) (s:Sg) (vs:Array Value),SimH I w s (hpL [])→RDs I w s vs args→Calls P F vs w fun e w'=>∃ v d b arr T,e = .returned v∧R d∧w.heap.size≤b∧w'.heap[b]? = some (.cells arr T (0,0))∧(∀ s,RD (fun k=>I k∨k=b) w' s v d)∧Below w.heap.size w w'):DC P F args [] (fun r h=>R r∧h=[]):=fun I w s vs H hv=>by
  refine (hc I w s vs H hv).mono ?_
  rintro e w' ⟨v,d,b,arr,T,rfl,hR,hn,hbk,hd,hb⟩
  have hlt:b<w'.heap.size:=lt_of_heap hbk
  exact ⟨v,fun k=>I k∨k=b,s,d,[],rfl,⟨hR,rfl⟩,hd s,⟨H.top,fun k cs hk=>by simp [hpL] at hk,fun k k' b cs cs' h=>by simp [hpL] at h,fun k hk=>hk.elim (fun q=>Nat.lt_of_lt_of_le (H.imm k q) hb.size) (fun q=>q ▸ hlt),
      H.yng.step hb.size (fun b hlt=>hb.block b (Nat.lt_of_lt_of_le hlt H.yng.1)) (fun b h => .inl h),fun k hk hy=>hk.elim (fun q=>H.wri.step (shp_below hb) k q hy) (fun q=>q ▸ ⟨arr,T,hbk⟩)⟩,
    ⟨hb.os,hb.tape,hb.output,hb.size,fun b hlt _=>hb.block b hlt,shp_below hb,fun _ _=>rfl,fun _ h => .inl h,fun k h=>h.elim .inl (fun q => .inr (.inr (q ▸ hn))),fun _ h => .inl h⟩,Nat.le_refl _⟩
end
end Go.CT
