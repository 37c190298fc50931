/- A contract for plain data serves blocks that somebody owns, in depth: the blocks are taken for plain data step by step, and are the owner's again behind a call that hands back one scalar. -/
import Derived.Test.YtoakidkcppinpaaGreatDAi
set_option linter.unusedVariables false
set_option linter.unusedSimpArgs false
set_option linter.unusedSectionVars false
set_option maxHeartbeats 16000000
set_option maxRecDepth 100000
namespace Go.CT
variable [Yn]
def Frz (hp:Hp) (args' args:List D):Prop:=∀ (I:Nat→Prop) (w:World) (s:Sg) (vs:Array Value),SimH I w s hp→RDs I w s vs args'→∃ (I':Nat→Prop) (s':Sg),SimH I' w s' (hpL [])∧RDs I' w s' vs args
theorem Frz.of {hp:Hp} {args' args:List D} (fz:List Nat) (hm:DMs (hOf (enumL 0 [])) (fun _=>none) hp fz args args'):Frz hp args' args:=fun I w s vs H hv=>by
  have hs:SubH 0 (fun _=>none) fz (hOf (enumL 0 [])) hp :=
    ⟨fun k cs hk=>by simp [enumL,hOf] at hk,fun k k' cs cs' j h1=>by simp [enumL,hOf] at h1,fun k hk=>by omega⟩
  obtain ⟨H',_⟩:=hs.sim H
  have hv':=DMs.rds (r:=fun _=>none) (fz:=fz) (hT:=hOf (enumL 0 [])) H args args' vs.toList hm (by simpa using hv)
  rw [Array.toArray_toList] at hv'
  rw [hpL_enum] at H' hv'
  exact ⟨_,_,H',hv'⟩
theorem Frz.step {hp : Hp} {args' args1 args : List D} (r : Nat → Option Nat) (fz : List Nat) (hl : List (Nat × Option (List C)))
    (hq:HpOK (hOf hl) r hp fz hl∧((hl.filterMap fun p=>p.2.map fun _=>p.1).filterMap r).Nodup) (hm:DMs (hOf hl) r hp fz args1 args') (h:Frz (hOf hl) args1 args):Frz hp args' args:=fun I w s vs H hv=>by
  have hM:Mq 0 r fz [] hl ⟨fun _=>none,hp,0⟩:=⟨trivial,hq.1,trivial,hq.2⟩
  obtain ⟨H',_⟩:=hM.subH.sim H
  have hv':=DMs.rds (r:=r) (fz:=fz) (hT:=hOf hl) H args1 args' vs.toList hm (by simpa using hv)
  rw [Array.toArray_toList] at hv'
  exact h _ w _ vs H' hv'
theorem DC.borrowB {P : Program} {F : FuncId} {args args' : List D} {h : List (Option (List C))} {sz n : Nat} {cs : List C} (hf : Frz (hpL h) args' args) (hD : DC P F args [] (fun r h => r = .c (.msl 0 sz 0 n) ∧ h = [some cs])) (hcs : ∀ c ∈ cs, ∃ v, c = .v v) :
    DC P F args' h (fun r h'=>r = .c (.msl h.length sz 0 n)∧h'=h++[some cs]):=fun I w s vs H hv=>by
  obtain ⟨I0,s0,H',hv'⟩:=hf I w s vs H hv
  refine (hD _ w _ vs H' hv').mono ?_
  rintro e w' ⟨v,I',s1,d,h',rfl,⟨rfl,rfl⟩,hrd,hH,hE,hl⟩
  have same:∀ b,b<w.heap.size→w'.heap[b]? = w.heap[b]? := fun b hb=>hE.same b hb fun hn=>by
    obtain ⟨k,cs,h1,_⟩:=hn
    simp [hpL] at h1
  have fresh:∀ b,s1 0=some (some b)→w.heap.size≤b:=fun b hb=>by
    rcases hE.live b ⟨0,cs,by simp [hpL],hb⟩ with h1 | h1
    · obtain ⟨k,cs',h2,_⟩:=h1
      simp [hpL] at h2
    · exact h1
  let s2:Sg:=fun k=>if k=h.length then s1 0 else s k
  have e0:s2 h.length=s1 0:=by simp [s2]
  have e1:∀ k,k ≠ h.length→s2 k=s k:=fun k hk=>by simp [s2,hk]
  have g0:hpL (h++[some cs]) h.length=some (some cs):=by simp [hpL]
  have g1:∀ k,k<h.length→hpL (h++[some cs]) k=hpL h k:=fun k hk=>by simp [hpL,List.getElem?_append_left hk]
  have gk:∀ k x,hpL (h++[some cs]) k=some x→k<h.length∨k=h.length:=fun k x hk=>by
    have:=(List.getElem?_eq_some_iff.1 hk).1
    simp at this;omega
  have hlive:∀ b,Live s2 (hpL (h++[some cs])) b→Live s (hpL h) b∨w.heap.size≤b:=by
    rintro b ⟨k,cs',h1,h2⟩
    rcases gk k _ h1 with hk | rfl
    · rw [e1 k (by omega)] at h2
      rw [g1 k hk] at h1
      exact .inl ⟨k,cs',h1,h2⟩
    · rw [e0] at h2
      exact .inr (fresh b h2)
  refine ⟨v,I,s2,.c (.msl h.length sz 0 n),h++[some cs],rfl,⟨rfl,rfl⟩,?_,⟨fun k hk=>?_,fun k cs' hk=>?_,fun k k' b c1 c2 h1 h2 h3 h4=>?_,fun b hb=>Nat.lt_of_lt_of_le (H.imm b hb) hE.size,H.yng.step hE.size hlive,H.wri.step hE.shp⟩,
    ⟨hE.os,hE.tape,hE.output,hE.size,fun b hb _=>same b hb,hE.shp,fun k hk=>e1 k (by omega),fun _ h=>h,fun _ h => .inl h,hlive⟩,by simp⟩
  · cases hrd with
    | c _ _ hc =>
      cases hc with
      | msl0 _ a _ _ h0=>exact .c _ _ (.msl0 _ a h.length sz (by rw [e0];exact h0))
      | msl _ _ b _ _ _ cap arr T fr h0 hlen hb hcap=>exact .c _ _ (.msl _ h.length b sz 0 n cap arr T fr (by rw [e0];exact h0) hlen hb hcap)
  · have hk2:h.length+1≤k:=by
      rcases Nat.lt_or_ge k (h.length+1) with q | q
      · simp only [hpL] at hk
        rw [List.getElem?_eq_none_iff] at hk
        simp at hk;omega
      · exact q
    rw [e1 k (by omega)]
    exact H.top k (by simp only [hpL];exact List.getElem?_eq_none (by omega))
  · rcases gk k _ hk with hk2 | rfl
    · rw [g1 k hk2] at hk
      rw [e1 k (by omega)]
      rcases H.blk k cs' hk with h1 | ⟨b,arr,T,h1,h2,h3,h4,h5⟩
      · exact .inl h1
      · have hb:b<w.heap.size:=by
          rcases Nat.lt_or_ge b w.heap.size with hb | hb
          · exact hb
          · rw [Array.getElem?_eq_none hb] at h2;cases h2
        refine .inr ⟨b,arr,T,h1,by rw [same b hb];exact h2,h3,h4,fun j hj=>?_⟩
        obtain ⟨y,hy,hr⟩:=h5 j hj
        refine ⟨y,hy,hr.mono (fun _ h=>h) (fun b hb=>same b (H.imm b hb)) hE.shp fun k x hs=>?_⟩
        by_cases q:k=h.length
        · have:=H.top k (by simp only [hpL];exact List.getElem?_eq_none (by omega))
          rw [this] at hs;cases hs
        · rw [e1 k q];exact hs
    · rw [g0] at hk
      simp only [Option.some.injEq] at hk
      subst hk
      rw [e0]
      rcases hH.blk 0 cs (by simp [hpL]) with h1 | ⟨b,arr,T,h1,h2,h3,h4,h5⟩
      · exact .inl h1
      · refine .inr ⟨b,arr,T,h1,h2,h3,fun hI=>?_,fun j hj=>?_⟩
        · have:=fresh b h1
          have:=H.imm b hI
          omega
        · obtain ⟨y,hy,hr⟩:=h5 j hj
          obtain ⟨u,hu⟩:=hcs _ (List.getElem_mem hj)
          rw [hu] at hr ⊢
          cases hr with | v _ _ h6=>exact ⟨y,hy,.v _ _ h6⟩
  · have old:∀ k c,k<h.length→hpL h k=some (some c)→s k=some (some b)→b<w.heap.size:=fun k c hk hh hs=>by
      rcases H.blk k c hh with ⟨q,_⟩ | ⟨b',arr,T,q1,q2,_⟩
      · rw [hs] at q;cases q
      · rw [hs] at q1
        simp only [Option.some.injEq] at q1
        subst q1
        exact lt_of_heap q2
    rcases gk k _ h1 with hk | hk<;>rcases gk k' _ h2 with hk' | hk'
    · rw [g1 k hk] at h1
      rw [g1 k' hk'] at h2
      rw [e1 k (by omega)] at h3
      rw [e1 k' (by omega)] at h4
      exact H.inj k k' b _ _ h1 h2 h3 h4
    · subst hk'
      rw [g1 k hk] at h1
      rw [e1 k (by omega)] at h3
      rw [e0] at h4
      have:=old k _ hk h1 h3
      have:=fresh b h4
      omega
    · subst hk
      rw [g1 k' hk'] at h2
      rw [e1 k' (by omega)] at h4
      rw [e0] at h3
      have:=old k' _ hk' h2 h4
      have:=fresh b h3
      omega
    · omega
section
variable {K:Bool} {P:Program} {m:Nat} {f:FuncId} {nt:Nat} {R:D→List (Option (List C))→Prop}
theorem Sub.shrink {tm:Nat→Option D} {hp:Hp} {lg lg':Lg} (k n:Nat) (cs:List C) (hk:hp k=some (some cs)):Sub m nt ⟨tm,hp,lg⟩ ⟨tm,upd hp k (some (some (cs.take n))),lg'⟩:=fun I w s a hR=>by
  have H:SimH I w s hp:=hR.H
  have hin:∀ j c,upd hp k (some (some (cs.take n))) j=some (some c)→∃ c0,hp j=some (some c0)∧(c=c0∨c=c0.take n):=fun j c hj=>by
    by_cases e:j=k
    · subst e
      rw [upd_same] at hj
      simp only [Option.some.injEq] at hj
      exact ⟨cs,hk,.inr hj.symm⟩
    · rw [upd_ne _ _ e] at hj
      exact ⟨c,hj,.inl rfl⟩
  have hlive:∀ b,Live s (upd hp k (some (some (cs.take n)))) b→Live s hp b:=by
    rintro b ⟨j,c,h1,h2⟩
    obtain ⟨c0,h3,_⟩:=hin j c h1
    exact ⟨j,c0,h3,h2⟩
  refine ⟨I,s,⟨⟨fun j hj=>?_,fun j c hj=>?_,fun j j' b c c' h1 h2 h3 h4=>?_,H.imm,H.yng.step (Nat.le_refl _) fun b hb => .inl (hlive b hb),H.wri⟩,fun i d hd=>hR.tm i d hd,hR.df,hR.sz⟩,
    ⟨rfl,rfl,rfl,Nat.le_refl _,fun _ _ _=>rfl,Shp.refl _,fun _ _=>rfl,fun _ h=>h,fun _ h => .inl h,fun b hb => .inl (hlive b hb)⟩⟩
  · simp only at hj
    by_cases e:j=k
    · subst e;rw [upd_same] at hj;cases hj
    · rw [upd_ne _ _ e] at hj;exact H.top j hj
  · obtain ⟨c0,h3,h4⟩:=hin j c hj
    rcases H.blk j c0 h3 with ⟨g1,g2⟩ | ⟨b,arr,T,g1,g2,g3,g4,g5⟩
    · refine .inl ⟨g1,?_⟩
      rcases h4 with rfl | rfl
      · exact g2
      · simp [g2]
    · refine .inr ⟨b,arr,T,g1,g2,?_,g4,fun i hi=>?_⟩
      · rcases h4 with rfl | rfl
        · exact g3
        · simp;omega
      · rcases h4 with rfl | rfl
        · exact g5 i hi
        · have hi':i<c0.length:=by simp at hi;omega
          obtain ⟨y,hy,hr⟩:=g5 i hi'
          exact ⟨y,hy,by simpa using hr⟩
  · obtain ⟨c0,g1,_⟩:=hin j c h1
    obtain ⟨c1,g2,_⟩:=hin j' c' h2
    exact H.inj j j' b c0 c1 g1 g2 h3 h4
theorem XK.shrink {all : Array Oper} {i : Nat} {rest : List Oper} {lg : Lg} {nx0 : Nat} {kk : List Item} {S : Ms} (k n : Nat) (cs : List C) (hk : S.hp k = some (some cs))
    (h:XK K P m f nt R (some ⟨all,false,i,rest,lg,nx0⟩) kk ⟨S.tm,upd S.hp k (some (some (cs.take n))),S.nx⟩):XK K P m f nt R (some ⟨all,false,i,rest,lg,nx0⟩) kk S :=
  XK.sub (S':=⟨S.tm,upd S.hp k (some (some (cs.take n))),S.nx⟩) (lg':=lg) (Sub.shrink k n cs hk) h
end
def famO (hp:Hp) (b:Nat) (T:Nat→Option (List C)):Hp:=fun j=>if b≤j∧j<b+512 then (T (j - b)).map some else hp j
theorem famO_out {hp:Hp} {b j:Nat} {T:Nat→Option (List C)} (h:(decide (j<b) || decide (b+512≤j))=true):famO hp b T j=hp j:=by
  simp only [Bool.or_eq_true,decide_eq_true_eq] at h
  unfold famO;rw [if_neg (by omega)]
theorem famO_at {hp:Hp} {b i:Nat} {T:Nat→Option (List C)} (hi:i<512):famO hp b T (b+i)=(T i).map some:=by
  unfold famO;rw [if_pos (by omega),Nat.add_sub_cancel_left]
theorem famO_upd {hp:Hp} {b k:Nat} {T:Nat→Option (List C)} {x:Option (Option (List C))} (h:(decide (k<b) || decide (b+512≤k))=true):upd (famO hp b T) k x=famO (upd hp k x) b T:=by
  simp only [Bool.or_eq_true,decide_eq_true_eq] at h
  funext j
  simp only [famO,upd]
  by_cases e:j=k
  · subst e
    rw [if_pos rfl,if_neg (by omega),if_pos rfl]
  · rw [if_neg e]
    by_cases h2:b≤j∧j<b+512
    · rw [if_pos h2,if_pos h2]
    · rw [if_neg h2,if_neg h2,if_neg e]
def setT2 (T:Nat→Option (List C)) (i:Nat) (row:List C):Nat→Option (List C):=fun j=>if j=i then some row else T j
theorem setT2_same (T:Nat→Option (List C)) (i:Nat) (row:List C):setT2 T i row i=some row:=by simp [setT2]
theorem setT2_ne {T:Nat→Option (List C)} {i j:Nat} {row:List C} (h:j ≠ i):setT2 T i row j=T j:=by simp [setT2,h]
theorem setT2_set (T:Nat→Option (List C)) (i:Nat) (row row':List C):setT2 (setT2 T i row) i row'=setT2 T i row':=by
  funext j;simp only [setT2];split<;>rfl
theorem setT2_id {T:Nat→Option (List C)} {i:Nat} {row:List C} (h:T i=some row):setT2 T i row=T:=by
  funext j;simp only [setT2];split
  · rename_i e;rw [e,h]
  · rfl
theorem famO_set {hp:Hp} {b i:Nat} {T:Nat→Option (List C)} {row:List C} (hi:i<512):upd (famO hp b T) (b+i) (some (some row))=famO hp b (setT2 T i row):=by
  funext j
  simp only [famO,upd,setT2]
  by_cases e:j=b+i
  · subst e
    rw [if_pos rfl,if_pos (by omega),Nat.add_sub_cancel_left,if_pos rfl]
    rfl
  · rw [if_neg e]
    by_cases h2:b≤j∧j<b+512
    · rw [if_pos h2,if_pos h2,if_neg (by omega)]
    · rw [if_neg h2,if_neg h2]
theorem famO_free {hp:Hp} {b c:Nat} {T:Nat→Option (List C)} (h:∀ j,j<64→hp (c+j)=none) (hc:b+512≤c∨c+64≤b):∀ j,j<64→famO hp b T (c+j)=none:=fun j hj=>by
  unfold famO;rw [if_neg (by omega)];exact h j hj
def famG (g:Nat→Nat) (w n:Nat) (T:Nat→Option (List C)):List C:=(List.range n).map fun i=>if (T i).isSome then .msl (g i) 1 0 w else .v (.slice none 0 0)
theorem famG_len (g:Nat→Nat) (w n:Nat) (T:Nat→Option (List C)):(famG g w n T).length=n:=by simp [famG]
theorem famG_some {g:Nat→Nat} {w n i:Nat} {T:Nat→Option (List C)} {row:List C} (h:i<n) (ht:T i=some row):(famG g w n T)[i]? = some (.msl (g i) 1 0 w):=by
  simp [famG,h,ht]
theorem famG_none {g:Nat→Nat} {w n i:Nat} {T:Nat→Option (List C)} (h:i<n) (ht:T i=none):(famG g w n T)[i]? = some (.v (.slice none 0 0)):=by
  simp [famG,h,ht]
theorem famG_set (g:Nat→Nat) (w n k K:Nat) (T:Nat→Option (List C)) (row:List C):(famG g w n T).set k (.msl K 1 0 w)=famG (fun i=>if i=k then K else g i) w n (setT2 T k row):=by
  refine List.ext_getElem? fun j=>?_
  rw [List.getElem?_set,famG_len]
  by_cases hj:j<n
  · by_cases e:k=j
    · subst e
      rw [if_pos rfl,if_pos hj,famG_some hj (setT2_same T k row),if_pos rfl]
    · rw [if_neg e]
      cases ht:T j with
      | none=>rw [famG_none hj ht,famG_none hj (by rw [setT2_ne (Ne.symm e)];exact ht)]
      | some r=>rw [famG_some hj ht,famG_some hj (row:=r) (by rw [setT2_ne (Ne.symm e)];exact ht),if_neg (Ne.symm e)]
  · have h1:∀ (g:Nat→Nat) (T:Nat→Option (List C)),(famG g w n T)[j]? = none:=fun g T=>List.getElem?_eq_none (by rw [famG_len];omega)
    rw [h1,h1]
    split
    · rename_i e;subst e;rw [if_neg hj]
    · rfl
theorem CMs.maps {hT hS : Hp} {r : Nat → Option Nat} {fz : List Nat} {f f' : Nat → C} : ∀ (l : List Nat), (∀ i ∈ l, CM hT r hS fz (f i) (f' i)) → CMs hT r hS fz (l.map f) (l.map f')
  | [],_=>by simp [CMs]
  | a :: t,h=>by
    simp only [List.map_cons,CMs]
    exact ⟨h a (by simp),CMs.maps t fun i hi=>h i (by simp [hi])⟩
theorem CMs.famG {hT hS:Hp} {r:Nat→Option Nat} {fz:List Nat} {g g':Nat→Nat} {w n:Nat} {T T':Nat→Option (List C)} (hTT:∀ i,i<n→(T i).isSome=(T' i).isSome) (hr:∀ i,i<n→(T i).isSome→r (g i)=some (g' i)) (hT2:∀ i,i<n→(T i).isSome→hT (g i) ≠ none):CMs hT r hS fz (Go.CT.famG g w n T) (Go.CT.famG g' w n T'):=by
  refine CMs.maps _ fun i hi=>?_
  have hi:=List.mem_range.1 hi
  have e:=hTT i hi
  cases ht:(T i).isSome with
  | true =>
    rw [ht] at e
    simp only [← e,if_true,CM]
    exact ⟨hr i hi ht,hT2 i hi ht,trivial,trivial,trivial⟩
  | false =>
    rw [ht] at e
    simp only [← e,Bool.false_eq_true,if_false,CM]
def frzG (n:Nat) (T:Nat→Option (List C)):List C:=(List.range n).map fun i=>match T i with | some row => .isl 1 (row.map fun c=>[c]) | none => .v (.slice none 0 0)
theorem CMs.famFz2 {hT hS:Hp} {r:Nat→Option Nat} {fz:List Nat} {g:Nat→Nat} {w n:Nat} {T:Nat→Option (List C)} (h:∀ i row,i<n→T i=some row→g i ∈ fz∧hS (g i)=some (some row)∧row.length=w∧∀ c ∈ row,Go.CT.kf c=true):CMs hT r hS fz (frzG n T) (Go.CT.famG g w n T):=by
  refine CMs.maps _ fun i hi=>?_
  have hi:=List.mem_range.1 hi
  cases ht:T i with
  | none=>simp only [Option.isSome_none,Bool.false_eq_true,if_false,CM]
  | some row =>
    obtain ⟨h1,h2,h3,h4⟩:=h i row hi ht
    simp only [Option.isSome_some,if_true,CM]
    refine ⟨⟨trivial,trivial,by simp [h3]⟩,h1,by rw [h2,flat1 (fun c=>c),List.map_id'],fun x hx=>?_,fun x hx c hc=>?_⟩
    · obtain ⟨c,_,rfl⟩:=List.mem_map.1 hx;rfl
    · obtain ⟨c',hc',rfl⟩:=List.mem_map.1 hx
      simp only [List.mem_singleton] at hc
      subst hc;exact h4 c hc'
theorem SubH.famO {m : Nat} {r : Nat → Option Nat} {fz : List Nat} {hl : List (Nat × Option (List C))} {hS : Hp} {b : Nat} {T : Nat → Option (List C)} (g : Nat → Nat) (hr : ∀ i row, i < 512 → T i = some row → r (b + i) = some (g i) ∧ g i ∉ fz ∧ hS (g i) = some (some row) ∧ ∀ c ∈ row, Go.CT.kf c = true)
    (hg:∀ i j,i<512→j<512→(T i).isSome→(T j).isSome→g i=g j→i=j)
    (hok:HpOK (Go.CT.famO (hOf hl) b T) r hS fz hl) (hlow:LowOK r (Go.CT.famO (hOf hl) b T) m) (hnd:((hl.filterMap fun p=>p.2.map fun _=>p.1).filterMap r).Nodup)
    (hdis:∀ k j cs,(k,some cs) ∈ hl→r k=some j→∀ i,i<512→(T i).isSome→j ≠ g i):SubH m r fz (Go.CT.famO (hOf hl) b T) hS where
  live:=fun k cs hk=>by
    unfold Go.CT.famO at hk
    by_cases h:b≤k∧k<b+512
    · rw [if_pos h] at hk
      cases hx:T (k - b) with
      | none=>rw [hx] at hk;simp at hk
      | some row =>
        rw [hx] at hk
        simp only [Option.map_some,Option.some.injEq] at hk
        subst hk
        obtain ⟨h1,h2,h3,h4⟩:=hr (k - b) row (by omega) hx
        rw [show b+(k - b)=k from by omega] at h1
        exact .inl ⟨_,row,h1,h2,h3,CMs.kf h4⟩
    · rw [if_neg h] at hk
      exact HpOK.at hok k cs (hOf_mem hk)
  inj:=fun k k' cs cs' j h1 h2 h3 h4=>by
    have key:∀ k cs,Go.CT.famO (hOf hl) b T k=some (some cs)→r k=some j→(∃ i,i<512∧(T i).isSome∧k=b+i∧j=g i)∨((k,some cs) ∈ hl∧∀ i,i<512→(T i).isSome→j ≠ g i):=fun k cs hk hj=>by
      unfold Go.CT.famO at hk
      by_cases h:b≤k∧k<b+512
      · rw [if_pos h] at hk
        cases hx:T (k - b) with
        | none=>rw [hx] at hk;simp at hk
        | some row =>
          have h1:=(hr (k - b) row (by omega) hx).1
          rw [show b+(k - b)=k from by omega,hj] at h1
          exact .inl ⟨k - b,by omega,by rw [hx];rfl,by omega,by simpa using h1⟩
      · rw [if_neg h] at hk
        exact .inr ⟨hOf_mem hk,hdis k j cs (hOf_mem hk) hj⟩
    rcases key k cs h1 h3 with ⟨i,hi,q,e1,e2⟩ | ⟨hm1,hd1⟩<;>rcases key k' cs' h2 h4 with ⟨i',hi',q',e1',e2'⟩ | ⟨hm2,hd2⟩
    · have:=hg i i' hi hi' q q' (by omega)
      omega
    · exact absurd e2 (hd2 i hi q)
    · exact absurd e2' (hd1 i' hi' q')
    · exact filterMap_inj hnd k k' j (live_mem hm1) (live_mem hm2) h3 h4
  low:=hlow.at
theorem DC.nilArg {P:Program} {F:FuncId} {args args':List D} {R:D→List (Option (List C))→Prop} (hf:DMs (hOf (enumL 0 [])) (fun _=>none) (hpL []) [] args args') (hD:DC P F args [] R):DC P F args' [] R:=fun I w s vs H hv=>by
  have hs:SubH 0 (fun _=>none) [] (hOf (enumL 0 [])) (hpL []) :=
    ⟨fun k cs hk=>by simp [hOf,enumL] at hk,fun k k' cs cs' j h1=>by simp [hOf,enumL] at h1,fun k hk=>by omega⟩
  obtain ⟨H',E'⟩:=hs.sim H
  have hv':=DMs.rds (r:=fun _=>none) (fz:=[]) (hT:=hOf (enumL 0 [])) H args args' vs.toList hf (by simpa using hv)
  rw [Array.toArray_toList] at hv'
  rw [hpL_enum] at H' hv' E'
  refine (hD _ w _ vs H' hv').mono ?_
  rintro e w' ⟨v,I',s'',d,h',rfl,hr,hrd,hH,hE,hl⟩
  exact ⟨v,I',s'',d,h',rfl,hr,hrd,hH,E'.trans hE,hl⟩
end Go.CT
