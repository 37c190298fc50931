/- A region, whole: in the order of the text, or in whatever order is drawn. -/
import Derived.Test.YtmjkgjkkpaephaaMAf
set_option linter.unusedVariables false
set_option linter.unusedSimpArgs false
set_option maxHeartbeats 16000000
set_option maxRecDepth 100000
namespace Go.CT
theorem fold_bits (acc:Array Nat) (j:Nat):∀ (l:List Edge) (s:Nat),(l.foldl (fun s e=>if Region.binds .any e then s ||| 2 ^ e.on ||| acc.getD e.on 0 else s) s).testBit j=true →
    s.testBit j=true∨∃ e ∈ l,Region.binds .any e=true∧(e.on=j∨(acc.getD e.on 0).testBit j=true)
  | [],s,h => .inl h
  | e :: r,s,h=>by
    simp only [List.foldl_cons] at h
    rcases fold_bits acc j r _ h with h1 | ⟨e',he',hb,h2⟩
    · by_cases hb:Region.binds .any e=true
      · rw [if_pos hb] at h1
        simp only [Nat.testBit_or,Bool.or_eq_true] at h1
        rcases h1 with (h1 | h1) | h1
        · exact .inl h1
        · rw [Nat.testBit_two_pow] at h1
          exact .inr ⟨e,by simp,hb,.inl (of_decide_eq_true h1)⟩
        · exact .inr ⟨e,by simp,hb,.inr h1⟩
      · rw [if_neg hb] at h1
        exact .inl h1
    · exact .inr ⟨e',by simp [he'],hb,h2⟩
theorem before_aux (j:Nat):∀ (l:List Oper) (acc:Array Nat),∃ R:Array Nat,
    l.foldl (fun acc o=>acc.push (o.after.foldl (fun s e=>if Region.binds .any e then s ||| 2 ^ e.on ||| acc.getD e.on 0 else s) 0)) acc=R∧(∀ k,k<acc.size→R[k]? = acc[k]?) ∧
      ∀ k o,l[k]? = some o→(R.getD (acc.size+k) 0).testBit j=true→∃ e ∈ o.after,Region.binds .any e=true∧(e.on=j∨(R.getD e.on 0).testBit j=true)
  | [],acc=>⟨acc,rfl,fun _ _=>rfl,fun k o h=>by simp at h⟩
  | o :: r,acc=>by
    obtain ⟨R,hR,h1,h2⟩:=before_aux j r (acc.push (o.after.foldl (fun s e=>if Region.binds .any e then s ||| 2 ^ e.on ||| acc.getD e.on 0 else s) 0))
    refine ⟨R,hR,fun k hk=>?_,fun k o' hk hb=>?_⟩
    · rw [h1 k (by simp;omega),Array.getElem?_push,if_neg (by omega)]
    · cases k with
      | succ k=>exact h2 k o' (by simpa using hk) (by rw [Array.size_push,show acc.size+1+k=acc.size+(k+1) from by omega];exact hb)
      | zero =>
        simp only [List.getElem?_cons_zero,Option.some.injEq] at hk
        subst hk
        have e1:R.getD (acc.size+0) 0=o.after.foldl (fun s e=>if Region.binds .any e then s ||| 2 ^ e.on ||| acc.getD e.on 0 else s) 0:=by
          rw [Array.getD_eq_getD_getElem?,h1 _ (by simp)]
          simp
        rw [e1,← Array.foldl_toList] at hb
        rcases fold_bits acc j o.after.toList 0 hb with h3 | ⟨e,he,hbe,h3⟩
        · simp at h3
        · refine ⟨e,by simpa using he,hbe,h3.imp id fun h4=>?_⟩
          have hlt:e.on<acc.size:=by
            rcases Nat.lt_or_ge e.on acc.size with h5 | h5
            · exact h5
            · simp [Array.getD_eq_getD_getElem?,Array.getElem?_eq_none h5] at h4
          have:R.getD e.on 0=acc.getD e.on 0:=by
            rw [Array.getD_eq_getD_getElem?,Array.getD_eq_getD_getElem?,h1 _ (by simp;omega),Array.getElem?_push,if_neg (by omega)]
          rw [this];exact h4
theorem ord_edge {all:Array Oper} {i j:Nat} {o:Oper} (ho:all[i]? = some o) (h:ord all j i=true):∃ e ∈ o.after,Region.binds .any e=true∧(e.on=j∨ord all j e.on=true):=by
  obtain ⟨R,hR,_,h2⟩:=before_aux j all.toList #[]
  have e1:Region.before all=R:=by
    rw [← hR]
    simp only [Region.before]
    rw [← Array.foldl_toList]
  simp only [ord,e1] at h ⊢
  have:=h2 i o (by simpa using ho) (by simpa using h)
  exact this
section
variable {P:Program} {m nx nt:Nat} {all:Array Oper}
theorem dop_mono2 {dr:Bool} {i:Nat} {o:Oper} {K K':Rs→Prop} {S:Rs} (h:∀ S' p,S'.lg=upd S.lg i (some p)→K S'→K' S') (hd:dop P m nx nt all dr i o K S):dop P m nx nt all dr i o K' S :=
  let ⟨rd,wr,T,h1,h2,h3,h4⟩:=hd
  ⟨rd,wr,T,h1,h2,h3,fun d up ht=>h _ _ rfl (h4 d up ht)⟩
theorem drawOK_pair (h:drawOK all=true) {i j:Nat} (hij:j<i) {x y:Oper} (hx:all[i]? = some x) (hy:all[j]? = some y) (ho:ord all j i=false):ord all i j=false∧x.apart all y=true∧(isFn x && isFn y)=false:=by
  simp only [drawOK,Bool.and_eq_true,List.all_eq_true,List.mem_range] at h
  have hi:=(Array.getElem?_eq_some_iff.1 hx).1
  have hj:=(Array.getElem?_eq_some_iff.1 hy).1
  have:=h.2 i hi j hj
  have h3:ord all i j=false∧x.apart all y=true∧(isFn x=false∨isFn y=false):=by
    simpa [hx,hy,ho,show ¬ i≤j from by omega] using this
  exact ⟨h3.1,h3.2.1,by rcases h3.2.2 with h | h<;>simp [h]⟩
theorem drawOK_edge (h:drawOK all=true) {i:Nat} {x:Oper} (hx:all[i]? = some x) {e:Edge} (he:e ∈ x.after) (hb:Region.binds .any e=true):e.on<i:=by
  simp only [drawOK,Bool.and_eq_true,List.all_eq_true,List.mem_range] at h
  have hi:=(Array.getElem?_eq_some_iff.1 hx).1
  have:=h.1.2 i hi
  simp only [hx,Array.all_eq_true_iff_forall_mem,Bool.or_eq_true,Bool.not_eq_true',decide_eq_true_eq] at this
  rcases this e he with h1 | h1
  · rw [hb] at h1;cases h1
  · exact h1
theorem apart_symm {x y:Oper} (h:x.apart all y=true):y.apart all x=true:=by
  obtain ⟨a1,a2,a3⟩:=Oper.apart_spec h
  simp only [Oper.apart,Bool.and_eq_true]
  constructor
  · cases hd:y.dst with
    | none=>rfl
    | some d =>
      have:=a3 d hd
      have h3:x.dst ≠ some d:=fun e=>a2 d e hd
      simp [this,h3]
  · cases hd:x.dst with
    | none=>rfl
    | some d=>simp [a1 d hd]
theorem dops_front (hD:drawOK all=true) {i:Nat} {o:Oper} (ho:all[i]? = some o) {K:Rs→Prop}:∀ (pre post:List Nat) {S:Rs},(∀ j ∈ pre,j<i)→(∀ j ∈ pre,ord all j i=false)→S.lg i=none→(∀ j ∈ pre,S.lg j=none)→pre.Nodup →
    dops P m nx nt all true K (pre++i :: post) S→dop P m nx nt all true i o (dops P m nx nt all true K (pre++post)) S
  | [],post,S,_,_,_,_,_,h=>by simpa only [List.nil_append,dops,ho] using h
  | j :: pre,post,S,hlt,hno,hli,hlj,hnd,h=>by
    simp only [List.cons_append,dops] at h
    cases hj:all[j]? with
    | none=>simp only [hj] at h
    | some oj =>
      simp only [hj] at h
      have hji:=hlt j (by simp)
      obtain ⟨h1,h2,h3⟩:=drawOK_pair hD hji ho hj (hno j (by simp))
      have hnd':=List.nodup_cons.1 hnd
      have h4:dop P m nx nt all true j oj (dop P m nx nt all true i o (dops P m nx nt all true K (pre++post))) S:=by
        refine dop_mono2 (fun S' p hl hK=>?_) h
        refine dops_front hD ho pre post (fun k hk=>hlt k (by simp [hk])) (fun k hk=>hno k (by simp [hk])) ?_ (fun k hk=>?_) hnd'.2 hK
        · rw [hl,upd_ne _ _ (by omega)];exact hli
        · rw [hl,upd_ne _ _ (fun e:k=j=>hnd'.1 (by rw [← e];exact hk))];exact hlj k (by simp [hk])
      have hi':=(Array.getElem?_eq_some_iff.1 ho).1
      have hj':=(Array.getElem?_eq_some_iff.1 hj).1
      have h5:=dop_swap hj' hi' (by omega) (apart_symm h2) (by rw [Bool.and_comm];exact h3) (hno j (by simp)) h1 (hlj j (by simp)) hli h4
      refine dop_mono (fun S' hS=>?_) h5
      simp only [List.cons_append,dops,hj]
      exact hS
theorem draws_run (hD:drawOK all=true) {K:Rs→Prop} {Q:Exit→Act→World→Prop}:∀ (n:Nat) (T:List Nat) (listed:Array Bool) {I:Nat→Prop} {w:World} {s:Sg} {a:Act} {S:Rs},T.length=n→T.Pairwise (· < ·)→(∀ i ∈ T,i<all.size)→listed.size=all.size →
    (∀ i,i<all.size→(listed.getD i true=false ↔ i ∈ T))→(∀ i j,i<all.size→listed.getD i true=true→ord all j i=true→listed.getD j true=true)→(∀ i ∈ T,S.lg i=none)→Rc I w s a S.tm S.hp nt→dops P m nx nt all true K T S →
    (∀ a' w' I' s' S',K S'→Rc I' w' s' a' S'.tm S'.hp nt→Ext m I w s S.hp I' w' s' S'.hp→Q .normal a' w')→wpAny P .any all Q n listed a w:=by
  intro n
  induction n with
  | zero =>
    intro T listed I w s a S hT hP hlt hsz hl hdc hlg hR h hQ
    have:T=[]:=List.eq_nil_of_length_eq_zero hT
    subst this
    refine ⟨List.eq_nil_iff_forall_not_mem.2 fun i hi=>?_,hQ a w I s S h hR (Ext.refl _ _ _ _ _)⟩
    obtain ⟨h0,o,ho,_⟩:=mem_ready.1 hi
    have:=(hl i (Array.getElem?_eq_some_iff.1 ho).1).1 h0
    simp at this
  | succ n ih =>
    intro T listed I w s a S hT hP hlt hsz hl hdc hlg hR h hQ
    refine ⟨fun hr=>?_,fun i hi=>?_⟩
    · -- something can always be done
      exfalso
      cases hT':T with
      | nil=>rw [hT'] at hT;simp at hT
      | cons i r =>
        have hiT:i ∈ T:=by rw [hT'];simp
        have hi:=hlt i hiT
        have hmem:i ∈ Region.ready .any all listed:=by
          refine mem_ready.2 ⟨(hl i hi).2 hiT,all[i],by simp [hi],fun e he hb=>?_⟩
          have hlt':=drawOK_edge hD (Array.getElem?_eq_getElem hi) he hb
          cases hb':listed.getD e.on true with
          | true =>
            have hs:e.on<listed.size:=by omega
            simpa [Array.getD_eq_getD_getElem?,hs] using hb'
          | false =>
            have hm:=(hl e.on (by omega)).1 hb'
            rw [hT'] at hm hP
            rcases List.mem_cons.1 hm with h1 | h1
            · omega
            · have:=(List.pairwise_cons.1 hP).1 _ h1
              omega
        rw [hr] at hmem
        simp at hmem
    · obtain ⟨h0,o,ho,hall⟩:=mem_ready.1 hi
      have hilt:=(Array.getElem?_eq_some_iff.1 ho).1
      have hiT:=(hl i hilt).1 h0
      obtain ⟨pre,post,rfl⟩:=List.append_of_mem hiT
      have hlisted:∀ k,listed.getD k false=true→k<all.size∧listed.getD k true=true:=fun k hk=>by
        have:k<listed.size:=by
          rcases Nat.lt_or_ge k listed.size with h' | h'
          · exact h'
          · simp [Array.getD_eq_getD_getElem?,Array.getElem?_eq_none h'] at hk
        refine ⟨by omega,?_⟩
        simpa [Array.getD_eq_getD_getElem?,this] using hk
      have hnoord:∀ j,j ∈ pre++i :: post→ord all j i=false:=fun j hj=>by
        cases hb:ord all j i with
        | false=>rfl
        | true =>
          exfalso
          obtain ⟨e,he,hbe,hor⟩:=ord_edge ho hb
          obtain ⟨h1,h2⟩:=hlisted e.on (hall e he hbe)
          have hjl:listed.getD j true=true:=by
            rcases hor with rfl | hor
            · exact h2
            · exact hdc e.on j h1 h2 hor
          have:=(hl j (hlt j hj)).2 hj
          rw [hjl] at this;cases this
      have hpre:∀ j ∈ pre,j<i:=fun j hj=>(List.pairwise_append.1 hP).2.2 j hj i (by simp)
      have hP2:(pre++post).Pairwise (· < ·):=by
        refine hP.sublist ?_
        exact List.Sublist.append (List.Sublist.refl _) (List.sublist_cons_self _ _)
      have hndp:pre.Nodup:=((List.pairwise_append.1 hP).1).imp (fun h=>by omega)
      have hinot:i ∉ pre++post:=fun hm=>by
        rcases List.mem_append.1 hm with hm | hm
        · have:=hpre i hm;omega
        · have:=(List.pairwise_cons.1 (List.pairwise_append.1 hP).2.1).1 i hm;omega
      have hfr:=dops_front hD ho pre post hpre (fun j hj=>hnoord j (by simp [hj])) (hlg i (by simp)) (fun j hj=>hlg j (by simp [hj])) hndp h
      refine dop_run ho hR hfr fun a' w' I' s' S' hK hlg' hR' hE=>?_
      obtain ⟨p,hp⟩:=hlg'
      have hget:∀ k d,k<all.size→(listed.setIfInBounds i true).getD k d=if k=i then true else listed.getD k d:=fun k d hk=>by
        by_cases e:k=i
        · subst e
          simp [Array.getD_eq_getD_getElem?,hsz,hk]
        · rw [if_neg e]
          exact getD_set_ne d (fun e'=>e e'.symm)
      refine ih (pre ++ post) (listed.setIfInBounds i true) (by simp at hT ⊢; omega) hP2 (fun k hk => hlt k (by rcases List.mem_append.1 hk with h | h <;> simp [h])) (by simpa using hsz) (fun k hk => ?_) (fun k j hk hkl hkj => ?_) (fun k hk => ?_) hR' hK
        (fun a'' w'' I'' s'' S'' hK' hR'' hE'=>hQ a'' w'' I'' s'' S'' hK' hR'' (hE.trans hE'))
      · rw [hget k true hk]
        by_cases e:k=i
        · subst e
          simp only [if_true]
          exact ⟨fun h=>(by cases h),fun h=>absurd h hinot⟩
        · rw [if_neg e,hl k hk]
          simp only [List.mem_append,List.mem_cons]
          constructor
          · rintro (h | h | h)
            · exact .inl h
            · exact absurd h e
            · exact .inr h
          · rintro (h | h)
            · exact .inl h
            · exact .inr (.inr h)
      · rw [hget k true hk] at hkl
        by_cases hjs:j<all.size
        · rw [hget j true hjs]
          by_cases ej:j=i
          · rw [if_pos ej]
          · rw [if_neg ej]
            by_cases e:k=i
            · subst e
              cases hb:listed.getD j true with
              | true=>rfl
              | false =>
                have:=hnoord j ((hl j hjs).1 hb)
                rw [hkj] at this;cases this
            · rw [if_neg e] at hkl
              exact hdc k j hk hkl hkj
        · rw [Array.getD_eq_getD_getElem?,Array.getElem?_eq_none (by simp [hsz];omega)];rfl
      · rw [hp,upd_ne _ _ (fun e:k=i=>hinot (by rw [← e];exact hk))]
        exact hlg k (by rcases List.mem_append.1 hk with h | h<;>simp [h])
end
structure Ms where
  tm:Nat→Option D
  hp:Hp
  nx:Nat
def bf (f:FuncId):Frame:={ (default:Frame) with fn:=f,kind := .normal }
def Go (P:Program) (m:Nat) (f:FuncId) (nt:Nat) (R:D→List (Option (List C))→Prop) (todo:List Item) (S:Ms):Prop :=
  ∀ I w s a,Rc I w s a S.tm S.hp nt→∀ cs,∃ v w' fr I' s' d h',R d h'∧RD I' w' s' v d∧SimH I' w' s' (hpL h')∧Ext m I w s S.hp I' w' s' (hpL h')∧m≤h'.length ∧
    Steps P (lone ((bf f).at a todo) cs w) (lone fr cs w')∧fr.fn=f∧fr.leaving P w' (.returned v)
structure Rg where
  all:Array Oper
  dr:Bool
  i:Nat
  rest:List Oper
  lg:Lg
  nx0:Nat
def Sub (m nt:Nat) (S S2:Rs):Prop:=∀ I w s a,Rc I w s a S.tm S.hp nt→∃ I' s',Rc I' w s' a S2.tm S2.hp nt∧Ext m I w s S.hp I' w s' S2.hp
theorem Sub.refl (m nt:Nat) (S:Rs):Sub m nt S S:=fun I w s a h=>⟨I,s,h,Ext.refl _ _ _ _ _⟩
theorem Sub.trans {m nt:Nat} {S S' S'':Rs} (h:Sub m nt S S') (h':Sub m nt S' S''):Sub m nt S S'':=fun I w s a hR=>by
  obtain ⟨I1,s1,R1,E1⟩:=h I w s a hR
  obtain ⟨I2,s2,R2,E2⟩:=h' I1 w s1 a R1
  exact ⟨I2,s2,R2,E1.trans E2⟩
def Pre (m nt:Nat) (dr:Bool) (S:Rs) (Φ:Rs→Prop):Prop:=(dr=true→Φ S)∧(dr=false→∃ S2,Sub m nt S S2∧Φ S2)
theorem Pre.intro {m nt:Nat} {dr:Bool} {S:Rs} {Φ:Rs→Prop} (h:Φ S):Pre m nt dr S Φ:=⟨fun _=>h,fun _=>⟨S,Sub.refl _ _ _,h⟩⟩
theorem Pre.sub {m nt:Nat} {S S':Rs} {Φ:Rs→Prop} (hs:Sub m nt S S') (h:Pre m nt false S' Φ):Pre m nt false S Φ :=
  ⟨fun e=>(Bool.false_ne_true e).elim,fun e=>let ⟨S2,h1,h2⟩:=h.2 e;⟨S2,hs.trans h1,h2⟩⟩
def dopsL (P : Program) (m nx nt : Nat) (all : Array Oper) (dr : Bool) (K : Rs → Prop) : Nat → List Oper → Rs → Prop
  | _,[],S=>Pre m nt dr S K
  | i,o :: r,S=>Pre m nt dr S (dop P m nx nt all dr i o (dopsL P m nx nt all dr K (i+1) r))
def XK (P : Program) (m : Nat) (f : FuncId) (nt : Nat) (R : D → List (Option (List C)) → Prop) : Option Rg → List Item → Ms → Prop
  | none,k,S=>Go P m f nt R k S
  | some g,k,S=>dopsL P m g.nx0 nt g.all g.dr (fun S'=>Go P m f nt R k ⟨S'.tm,S'.hp,g.nx0+64 * g.all.size⟩) g.i g.rest ⟨S.tm,S.hp,g.lg⟩
section
variable {P:Program} {m:Nat} {f:FuncId} {nt:Nat} {R:D→List (Option (List C))→Prop}
theorem dopsL_dops {nx : Nat} {all : Array Oper} {K : Rs → Prop} : ∀ (l : List Oper) (i : Nat) (S : Rs), (∀ j, l[j]? = all[i + j]?) → dopsL P m nx nt all true K i l S → dops P m nx nt all true K (List.range' i l.length) S
  | [],i,S,_,h=>by
    simp only [dopsL] at h
    simpa [dops] using h.1 rfl
  | o :: r,i,S,hl,h=>by
    have h0:all[i]? = some o:=by simpa using (hl 0).symm
    simp only [List.length_cons,List.range'_succ,dops,h0]
    simp only [dopsL] at h
    refine dop_mono (fun S' hS=>?_) (h.1 rfl)
    exact dopsL_dops r (i+1) S' (fun j=>by have:=hl (j+1);simpa [Nat.add_assoc,Nat.add_comm 1 j] using this) hS
theorem dopsL_run {nx:Nat} {all:Array Oper} {K:Rs→Prop} {Q:Exit→Act→World→Prop}:∀ (l:List Oper) (i:Nat) {I:Nat→Prop} {w:World} {s:Sg} {a:Act} {S:Rs},(∀ j,l[j]? = all[i+j]?)→Rc I w s a S.tm S.hp nt →
    dopsL P m nx nt all false K i l S→(∀ a' w' I' s' S',K S'→Rc I' w' s' a' S'.tm S'.hp nt→Ext m I w s S.hp I' w' s' S'.hp→Q .normal a' w')→wpOps P all Q (List.range' i l.length) a w
  | [],i,I,w,s,a,S,hl,hR,h,hQ=>by
    simp only [dopsL] at h
    obtain ⟨S2,hs,hK⟩:=h.2 rfl
    obtain ⟨I2,s2,R2,E2⟩:=hs I w s a hR
    exact hQ a w I2 s2 S2 hK R2 E2
  | o :: r,i,I,w,s,a,S,hl,hR,h,hQ=>by
    have h0:all[i]? = some o:=by simpa using (hl 0).symm
    simp only [dopsL] at h
    obtain ⟨S2,hs,hd⟩:=h.2 rfl
    obtain ⟨I2,s2,R2,E2⟩:=hs I w s a hR
    simp only [List.length_cons,List.range'_succ]
    rw [wpOps_cons]
    exact dop_run h0 R2 hd fun a' w' I' s' S' hK _ hR' hE => dopsL_run r (i + 1) (fun j => by have := hl (j + 1); simpa [Nat.add_assoc, Nat.add_comm 1 j] using this) hR' hK
      fun a'' w'' I'' s'' S'' hK' hR'' hE'=>hQ a'' w'' I'' s'' S'' hK' hR'' (E2.trans (hE.trans hE'))
theorem Go.of_step {k k':List Item} {S:Ms} (hs:∀ (a:Act) (w:World) (cs:List Frame),step P (lone ((bf f).at a k) cs w) = .next (lone ((bf f).at a k') cs w)) (h:Go P m f nt R k' S):Go P m f nt R k S :=
  fun I w s a hR cs=>let ⟨v,w',fr,I',s',d,h',h1,h2,h3,h4,h5,h6,h7⟩:=h I w s a hR cs
  ⟨v,w',fr,I',s',d,h',h1,h2,h3,h4,h5,.head (hs a w cs) h6,h7⟩
theorem Go.seq {x y:Code} {k:List Item} {S:Ms} (h:Go P m f nt R (.code x :: .code y :: k) S):Go P m f nt R (.code (.seq x y) :: k) S := .of_step (fun _ _ _=>step_seq) h
theorem Go.skip {k:List Item} {S:Ms} (h:Go P m f nt R k S):Go P m f nt R (.code .skip :: k) S := .of_step (fun _ _ _=>step_skip) h
theorem Go.label {l:Nat} {k:List Item} {S:Ms} (h:Go P m f nt R k S):Go P m f nt R (.code (.label l) :: k) S := .of_step (fun _ _ _=>step_label) h
theorem Go.block {id:Nat} {c:Code} {k:List Item} {S:Ms} (h:Go P m f nt R (.code c :: .inBlock id :: k) S):Go P m f nt R (.code (.block id c) :: k) S := .of_step (fun _ _ _=>step_block) h
theorem Go.inBlock {id:Nat} {k:List Item} {S:Ms} (h:Go P m f nt R k S):Go P m f nt R (.inBlock id :: k) S := .of_step (fun _ _ _=>step_inBlock) h
theorem Go.loop {c:Code} {k:List Item} {S:Ms} (h:Go P m f nt R (.code c :: .inLoop c :: k) S):Go P m f nt R (.code (.loop c) :: k) S := .of_step (fun _ _ _=>step_loop) h
theorem Go.inLoop {c:Code} {k:List Item} {S:Ms} (h:Go P m f nt R (.code c :: .inLoop c :: k) S):Go P m f nt R (.inLoop c :: k) S := .of_step (fun _ _ _=>step_inLoop) h
theorem Go.exit {id:Nat} {k k':List Item} {S:Ms} (he:exitTo id k=some k') (h:Go P m f nt R k' S):Go P m f nt R (.code (.exit id) :: k) S := .of_step (fun _ _ _=>step_exit he) h
theorem Go.cond {c : Operand} {x y : Code} {k : List Item} {S : Ms} {d : D} {t : Bool} (hd : evT S.tm c = some d) (hp : peelB d = true) (hb : peelD d = DB t) (h1 : t = true → Go P m f nt R (.code x :: k) S)
    (h2:t=false→Go P m f nt R (.code y :: k) S):Go P m f nt R (.code (.cond c x y) :: k) S:=fun I w s a hR cs=>by
  have hv:a.eval c = .bool t:=by
    have:=peel_sound (evT_sound hR.tm hd) hp
    rw [hb] at this
    exact (rd_scalar this).1
  have h:Go P m f nt R (.code (if t=true then x else y) :: k) S:=by
    cases t with
    | true=>exact h1 rfl
    | false=>exact h2 rfl
  obtain ⟨v,w',fr,I',s',d',h',g1,g2,g3,g4,g5,g6,g7⟩:=h I w s a hR cs
  exact ⟨v,w',fr,I',s',d',h',g1,g2,g3,g4,g5,.head (step_cond hv) g6,g7⟩
theorem Go.region {id : Nat} {all : Array Oper} {dr : Bool} {k : List Item} {S : Ms} (hm : dr = true → P.follows .mixedOrders = true) (hD : dr = true → drawOK all = true)
    (h:XK P m f nt R (some ⟨all,dr,0,all.toList,fun _=>none,S.nx⟩) k S):Go P m f nt R (.code (.region id all dr) :: k) S:=fun I w s a hR cs=>by
  let Q:Exit→Act→World→Prop:=fun e a' w'=>e = .normal∧∃ (I':Nat→Prop) (s':Sg) (S':Rs),Go P m f nt R k ⟨S'.tm,S'.hp,S.nx+64 * all.size⟩∧Rc I' w' s' a' S'.tm S'.hp nt∧Ext m I w s S.hp I' w' s' S'.hp
  have hwp:(Code.region id all dr).wp P Q a w:=by
    cases dr with
    | false =>
      have hrun:=dopsL_run (Q:=Q) (K:=fun S':Rs=>Go P m f nt R k ⟨S'.tm,S'.hp,S.nx+64 * all.size⟩) all.toList 0 (S:=⟨S.tm,S.hp,fun _=>none⟩) (fun j=>by simp) hR h fun a' w' I' s' S' hK hR' hE=>⟨rfl,I',s',S',hK,hR',hE⟩
      simp only [Array.length_toList,← List.range_eq_range'] at hrun
      exact wp_region hrun
    | true =>
      have hd:=dopsL_dops all.toList 0 ⟨S.tm,S.hp,fun _=>none⟩ (fun j=>by simp) h
      simp only [Array.length_toList,← List.range_eq_range'] at hd
      refine wp_region_any (hm rfl) ?_
      obtain ⟨H1,E1⟩:=hR.H.draw (m:=m)
      have hR1:Rc I { w with drawn:=w.drawn+1 } s a S.tm S.hp nt:=⟨H1,fun n d hn=>E1.rd hR.H (Sg.le_refl _) (hR.tm n d hn),hR.df,hR.sz⟩
      refine draws_run (hD rfl) all.size (List.range all.size) (Array.replicate all.size false) (by simp) List.pairwise_lt_range (fun i hi => by simpa using hi) (by simp) (fun i hi => ?_) (fun i j hi hl => ?_) (fun _ _ => rfl) hR1 hd
        fun a' w' I' s' S' hK hR' hE=>⟨rfl,I',s',S',hK,hR',E1.trans hE⟩
      · simp [hi]
      · simp [hi] at hl
  obtain ⟨e,a',w',⟨rfl,I',s',S',hK,hR',hE⟩,harr⟩:=hwp (bf f) k cs
  obtain ⟨v,w'',fr,I'',s'',d,h',g1,g2,g3,g4,g5,g6,g7⟩:=hK I' w' s' a' hR' cs
  exact ⟨v,w'',fr,I'',s'',d,h',g1,g2,g3,hE.trans g4,g5,Steps.trans harr g6,g7⟩
def resF (tmps : Array Value) : ResultVar → Sem Value
  | .tmp t=>pure (tmps.getD t undef)
  | .cell a t=>do loadVar t (← asAddr (tmps.getD a undef))
theorem results_eq (fn:Func) (tmps:Array Value):results fn tmps=(fn.results.mapM (resF tmps) >>= fun vs=>pure (if h:vs.size=1 then vs[0] else .tuple vs)):=by
  have:(fun | .tmp t=>pure (tmps.getD t undef) | .cell a t=>do loadVar t (← asAddr (tmps.getD a undef)):ResultVar→Sem Value)=resF tmps:=by
    funext x;cases x<;>rfl
  rw [← this]
  rfl
def retD (P : Program) (tm : Nat → Option D) (hp : Hp) : List ResultVar → Option (Prop × List D)
  | []=>some (True,[])
  | .tmp t :: r=>(match tm t,retD P tm hp r with | some d,some (vc,ds)=>some (peelB d=true∧vc,peelD d :: ds) | _,_=>none)
  | .cell a t :: r=>(match tm a,tagg P t,tsz P t,retD P tm hp r with
    | some (.c (.ptr k off)),some g,some n,some (vc,ds)=>(match hp k with
      | some (some cs)=>(match grab cs off n g with | some (vc',d)=>some (vc'∧vc,d :: ds) | none=>none)
      | _=>none)
    | _,_,_,_=>none)
def oneD : List D → D
  | [d]=>d
  | ds => .tup ds
def RetOb (m:Nat) (R:D→List (Option (List C))→Prop) (d:D) (hp:Hp):Prop :=
  ∀ I w s v,SimH I w s hp→RD I w s v d→∃ I' s' d' h',R d' h'∧RD I' w s' v d'∧SimH I' w s' (hpL h')∧Ext m I w s hp I' w s' (hpL h')∧m≤h'.length
theorem retD_run {I:Nat→Prop} {w:World} {s:Sg} {a:Act} {tm:Nat→Option D} {hp:Hp} (hR:Rc I w s a tm hp nt):∀ (l:List ResultVar) (vc:Prop) (ds:List D),retD P tm hp l=some (vc,ds)→vc →
    ∃ vs:List Value,(l.mapM (resF a.tmps)).run P w = .ok vs w∧RDs I w s vs.toArray ds
  | [],vc,ds,h,hvc=>by
    simp only [retD,Option.some.injEq,Prod.mk.injEq] at h
    obtain ⟨rfl,rfl⟩:=h
    exact ⟨[],rfl,rfl,fun j h=>by simp at h⟩
  | .tmp t :: r,vc,ds,h,hvc=>by
    simp only [retD] at h
    split at h
    · rename_i d vc' ds' hd hr
      simp only [Option.some.injEq,Prod.mk.injEq] at h
      obtain ⟨rfl,rfl⟩:=h
      obtain ⟨vs,h1,h2⟩:=retD_run hR r vc' ds' hr hvc.2
      have h0:=peel_sound (hR.tm t d hd) hvc.1
      refine ⟨a.tmps.getD t undef :: vs,?_,by have:=h2.1;simp at this ⊢;exact this,fun j g1 g2=>?_⟩
      · rw [List.mapM_cons,run_bind (x:=a.tmps.getD t undef) (w':=w) _ _ _ (by rfl),run_bind _ _ _ _ _ h1]
        rfl
      · cases j with
        | zero=>exact h0
        | succ j =>
          have h3:=h2.2 j (by simpa using g1) (by simpa using g2)
          rw [List.getElem_toArray] at h3
          rw [List.getElem_toArray]
          exact h3
    · cases h
  | .cell x t :: r,vc,ds,h,hvc=>by
    simp only [retD] at h
    split at h
    · rename_i k off g n vc' ds' hx hg hn hr
      split at h
      · rename_i cs hcs
        split at h
        · rename_i vc0 d hgr
          simp only [Option.some.injEq,Prod.mk.injEq] at h
          obtain ⟨rfl,rfl⟩:=h
          obtain ⟨vs,h1,h2⟩:=retD_run hR r vc' ds' hr hvc.2
          obtain ⟨b,hs,hxv⟩:=rd_ptr (hR.tm x _ hx)
          obtain ⟨arr,T,hb,hl,hrr⟩:=live_cells hR.H hcs hs
          obtain ⟨v,hv1,hv2⟩:=grab_sound (P:=P) hg hn (b:=b) (o:=0) hgr hvc.1 (fun j hj=>by
            obtain ⟨y,hy,hry⟩:=hrr j hj
            exact ⟨y,by simpa [World.cell?,hb] using hy,hry⟩)
          simp only [Nat.zero_add,Instr.loadAt,Instr.sureAddr] at hv1
          rw [run_bind (x:=(⟨b,off,none⟩:Addr)) (w':=w) _ _ _ (by rfl)] at hv1
          refine ⟨v :: vs,?_,by have:=h2.1;simp at this ⊢;exact this,fun j g1 g2=>?_⟩
          · rw [List.mapM_cons]
            rw [run_bind (x:=v) (w':=w)]
            · rw [run_bind _ _ _ _ _ h1];rfl
            · simp only [resF,hxv]
              rw [run_bind (x:=(⟨b,off,none⟩:Addr)) (w':=w) _ _ _ (by rfl)]
              exact hv1
          · cases j with
            | zero=>exact hv2
            | succ j =>
              have h3:=h2.2 j (by simpa using g1) (by simpa using g2)
              rw [List.getElem_toArray] at h3
              rw [List.getElem_toArray]
              exact h3
        · cases h
      · cases h
    · cases h
theorem Go.ret_core {fn : Func} (hf : P.funcs[f]? = some fn) {S : Ms} {vc : Prop} {ds : List D} (hr : retD P S.tm S.hp fn.results.toList = some (vc, ds)) (hvc : vc) (hob : RetOb m R (oneD ds) S.hp) {k : List Item}
    (hst:∀ (a:Act) (w:World) (cs:List Frame),step P (lone ((bf f).at a k) cs w) = .next (lone { (bf f).at a k with mode := .returning } cs w)):Go P m f nt R k S:=fun I w s a hR cs=>by
  obtain ⟨vs,hv,hvr⟩:=retD_run (P:=P) hR fn.results.toList vc ds hr hvc
  have hl:vs.length=ds.length:=by simpa using hvr.1
  have hres:∃ v,(results fn a.tmps).run P w = .ok v w∧RD I w s v (oneD ds):=by
    have hm:=run_mapM_arr (P:=P) (resF a.tmps) fn.results w w vs hv
    rw [results_eq,run_bind _ _ _ _ _ hm]
    by_cases h1:vs.length=1
    · match vs,ds,hl,h1,hvr with
      | [v],[d],_,_,hvr =>
        refine ⟨v,by simp [run_pure],?_⟩
        have:=hvr.2 0 (by simp) (by simp)
        simpa [oneD] using this
    · refine ⟨.tuple vs.toArray,by simp [h1,run_pure],?_⟩
      have:oneD ds = .tup ds:=by
        match ds,hl with
        | [],_=>rfl
        | [d],hl=>exact absurd hl h1
        | d :: d' :: r,_=>rfl
      rw [this]
      exact .tup _ _ hvr.1 hvr.2
  obtain ⟨v,hrun,hrd⟩:=hres
  obtain ⟨I',s',d',h',g1,g2,g3,g4,g5⟩:=hob I w s v hR.H hrd
  refine ⟨v,w,{ (bf f).at a k with mode := .returning },I',s',d',h',g1,g2,g3,g4,g5,.one (hst a w cs),rfl,rfl,hR.df,rfl,fn,hf,hrun⟩
theorem Go.ret {fn:Func} (hf:P.funcs[f]? = some fn) {S:Ms} {vc:Prop} {ds:List D} (hr:retD P S.tm S.hp fn.results.toList=some (vc,ds)) (hvc:vc) (hob:RetOb m R (oneD ds) S.hp) {k:List Item}:Go P m f nt R (.code .ret :: k) S :=
  .ret_core hf hr hvc hob fun _ _ _=>step_ret
theorem Go.done {fn:Func} (hf:P.funcs[f]? = some fn) {S:Ms} {vc:Prop} {ds:List D} (hr:retD P S.tm S.hp fn.results.toList=some (vc,ds)) (hvc:vc) (hob:RetOb m R (oneD ds) S.hp):Go P m f nt R [] S :=
  .ret_core hf hr hvc hob fun _ _ _=>step_end
def ofArgs : Nat → List D → Nat → Option D
  | _,[]=>fun _=>none
  | i,d :: r=>upd (ofArgs (i+1) r) i (some d)
theorem ofArgs_get : ∀ (l : List D) (i n : Nat), ofArgs i l n = if i ≤ n then l[n - i]? else none
  | [],i,n=>by simp [ofArgs]
  | d :: r,i,n=>by
    simp only [ofArgs,upd]
    rw [ofArgs_get r (i+1) n]
    by_cases h:n=i
    · subst h;simp
    · rw [if_neg h]
      by_cases h2:i+1≤n
      · rw [if_pos h2,if_pos (by omega),show n - i=(n - (i+1))+1 from by omega,List.getElem?_cons_succ]
      · rw [if_neg h2,if_neg (by omega)]
theorem dc_of_go {fn : Func} {c : Code} (hf : P.funcs[f]? = some fn) (hb : fn.body = some c) {args : List D} {h : List (Option (List C))} (hn : args.length ≤ fn.ntmps)
    (hg:Go P h.length f fn.ntmps R [.code c] ⟨ofArgs 0 args,hpL h,h.length⟩):DC P f args h R:=fun I w s vs H hvs=>by
  intro cs
  have henter:Frame.enter P f vs .normal=(bf f).at { tmps:=vs++Array.replicate (fn.ntmps - vs.size) undef,defers:=[] } [.code c]:=by
    simp [Frame.enter,Frame.at,hf,hb,bf]
  have hsz:vs.size=args.length:=hvs.1
  have hR:Rc I w s { tmps:=vs++Array.replicate (fn.ntmps - vs.size) undef,defers:=[] } (ofArgs 0 args) (hpL h) fn.ntmps:=by
    refine ⟨H,fun n d hd=>?_,rfl,by simp;omega⟩
    rw [ofArgs_get,if_pos (Nat.zero_le _),Nat.sub_zero] at hd
    obtain ⟨hlt,e⟩:=List.getElem?_eq_some_iff.1 hd
    have:(vs++Array.replicate (fn.ntmps - vs.size) undef).getD n undef=vs[n]'(by omega):=by
      rw [Array.getD_eq_getD_getElem?,Array.getElem?_append_left (by omega)]
      simp [show n<vs.size from by omega]
    simp only [this]
    rw [← e]
    exact hvs.2 n (by omega) hlt
  obtain ⟨v,w',fr,I',s',d,h',g1,g2,g3,g4,g5,g6,g7,g8⟩:=hg I w s _ hR cs
  rw [← henter] at g6
  exact ⟨.returned v,w',fr,⟨v,I',s',d,h',rfl,g1,g2,g3,g4,g5⟩,g6,g7,g8⟩
theorem Go.rounds {X : Type} {c : Code} {k : List Item} (In : X → Ms → Prop) (μ : X → Nat)
    (round:∀ x S,In x S→(∀ x' S',μ x' < μ x→In x' S'→Go P m f nt R (.inLoop c :: k) S')→Go P m f nt R (.code c :: .inLoop c :: k) S):∀ x S,In x S→Go P m f nt R (.inLoop c :: k) S:=by
  have key:∀ n x S,μ x=n→In x S→Go P m f nt R (.inLoop c :: k) S:=by
    intro n
    induction n using Nat.strongRecOn with
    | _ n ih =>
      intro x S hn hI
      exact .inLoop (round x S hI fun x' S' hlt hI'=>ih (μ x') (hn ▸ hlt) x' S' rfl hI')
  exact fun x S hI=>key _ x S rfl hI
end
def tOf : List (Nat × D) → Nat → Option D
  | []=>fun _=>none
  | (n,d) :: r=>upd (tOf r) n (some d)
def hOf : List (Nat × Option (List C)) → Hp
  | []=>fun _=>none
  | (k,x) :: r=>upd (hOf r) k (some x)
mutual
def CM (hT : Hp) (r : Nat → Option Nat) (hS : Hp) (fz : List Nat) : C → C → Prop
  | .unk,_=>True
  | .isl sz xs,c=>(match c with
    | .isl sz' xs'=>sz=sz'∧xs=xs'
    | .msl k sz' off len=>(sz=sz'∧off=0∧len=xs.length)∧k ∈ fz∧hS k=some (some xs.flatten)∧(∀ x ∈ xs,x.length=sz)∧∀ x ∈ xs,∀ c ∈ x,kf c=true
    | .v (.slice none 0 0)=>xs=[]
    | .z=>xs=[]
    | _=>False)
  | .msl k sz off len,c=>(match c with
    | .msl k' sz' off' len'=>r k=some k'∧hT k ≠ none∧sz=sz'∧off=off'∧len=len'
    | .v (.slice none 0 0)=>r k=none∧hT k ≠ none∧off=0∧len=0
    | .z=>r k=none∧hT k ≠ none∧off=0∧len=0
    | _=>False)
  | .ptr k off,c=>(match c with | .ptr k' off'=>r k=some k'∧hT k ≠ none∧off=off' | _=>False)
  | .clo f cs,c=>(match c with | .clo f' cs'=>f=f'∧CMs hT r hS fz cs cs' | _=>False)
  | .v x,c=>(match c with | .v y=>x=y | _=>False)
  | .z,c=>(match c with | .z=>True | .v (.slice none 0 0)=>True | _=>False)
  | .eptr cs,c=>(match c with
    | .eptr cs'=>cs=cs'
    | .ptr k off=>off=0∧k ∈ fz∧hS k=some (some cs)∧∀ c ∈ cs,kf c=true
    | _=>False)
  | .met f cs,c=>(match c with | .met f' cs'=>f=f'∧cs=cs' | _=>False)
def CMs (hT : Hp) (r : Nat → Option Nat) (hS : Hp) (fz : List Nat) : List C → List C → Prop
  | [],cs=>cs=[]
  | c :: r',cs=>(match cs with | c' :: r''=>CM hT r hS fz c c'∧CMs hT r hS fz r' r'' | []=>False)
end
mutual
def DM (hT : Hp) (r : Nat → Option Nat) (hS : Hp) (fz : List Nat) : D → D → Prop
  | .c a,d=>(match d with | .c b=>CM hT r hS fz a b | _=>False)
  | .agg as,d=>(match d with | .agg bs=>CMs hT r hS fz as bs | _=>False)
  | .tup as,d=>(match d with | .tup bs=>DMs hT r hS fz as bs | _=>False)
  | .when b x,d=>(match d with | .when b' y=>b=b'∧DM hT r hS fz x y | _=>False)
def DMs (hT : Hp) (r : Nat → Option Nat) (hS : Hp) (fz : List Nat) : List D → List D → Prop
  | [],ds=>ds=[]
  | d :: r',ds=>(match ds with | d' :: r''=>DM hT r hS fz d d'∧DMs hT r hS fz r' r'' | []=>False)
end
structure SubH (m : Nat) (r : Nat → Option Nat) (fz : List Nat) (hT hS : Hp) : Prop where
  live:∀ k cs,hT k=some (some cs)→(∃ k' cs',r k=some k'∧k' ∉ fz∧hS k'=some (some cs')∧CMs hT r hS fz cs cs')∨(r k=none∧cs=[])
  inj:∀ k k' cs cs' j,hT k=some (some cs)→hT k'=some (some cs')→r k=some j→r k'=some j→k=k'
  low:∀ k,k<m→r k=some k∧hT k ≠ none
section
variable {m:Nat} {r:Nat→Option Nat} {fz:List Nat} {hT hS:Hp} {I:Nat→Prop} {w:World} {s:Sg}
def subS (r:Nat→Option Nat) (hT:Hp) (s:Sg):Sg:=fun k=>match hT k with | none=>none | some _=>(match r k with | some k'=>s k' | none=>some none)
def subI (fz:List Nat) (hS:Hp) (s:Sg) (I:Nat→Prop):Nat→Prop:=fun b=>I b∨∃ k,k ∈ fz∧∃ cs,hS k=some (some cs)∧s k=some (some b)
theorem subS_some {k k':Nat} (h:hT k ≠ none) (hr:r k=some k'):subS r hT s k=s k':=by
  unfold subS
  cases h':hT k with
  | none=>exact absurd h' h
  | some x=>simp [hr]
theorem subS_none {k:Nat} (h:hT k ≠ none) (hr:r k=none):subS r hT s k=some none:=by
  unfold subS
  cases h':hT k with
  | none=>exact absurd h' h
  | some x=>simp [hr]
theorem RC.keyfree {x:Value} {c:C} (h:RC I w s x c) (hk:kf c=true) {I':Nat→Prop} (hI:∀ b,I b→I' b) (s':Sg):RC I' w s' x c:=by
  have h0:RC I w s' x c:=by
    cases h with
    | v _ _ h1=>exact .v _ _ h1
    | unk _ _ h1=>exact .unk _ _ h1
    | z _ a=>exact .z _ a
    | isl0 _ a cap sz=>exact .isl0 _ a cap sz
    | isl _ b off cap sz xs y hIb hl hc hr hcap=>exact .isl _ b off cap sz xs y hIb hl hc hr hcap
    | eptr _ b off cs y hIb hc hr=>exact .eptr _ b off cs y hIb hc hr
    | met _ f cs vs hl hr=>exact .met _ f cs vs hl hr
    | _=>simp [kf] at hk
  exact h0.mono hI (fun _ _=>rfl) (Shp.refl w) (Sg.le_refl _)
theorem flatten_at (sz:Nat) (xs:List (List C)) (h:∀ x ∈ xs,x.length=sz) (i j:Nat) (hi:i<xs.length) (hj:j<(xs[i]).length):xs.flatten[i * sz+j]? = some (xs[i])[j]:=by
  have hl:(xs[i]).length=sz:=h _ (List.getElem_mem hi)
  have hlt:i * sz+j<xs.length * sz:=by
    have:(i+1) * sz≤xs.length * sz:=Nat.mul_le_mul_right _ hi
    rw [Nat.add_mul] at this
    omega
  obtain ⟨i',t',hi',ht',e,ht2,hg⟩:=flatten_get sz xs h (i * sz+j) hlt
  have hpos:0<sz:=by omega
  have e1:(i * sz+j) / sz=i:=by rw [Nat.mul_comm,Nat.mul_add_div hpos,Nat.div_eq_of_lt (by omega),Nat.add_zero]
  have e2:(i * sz+j) % sz=j:=by rw [Nat.mul_comm,Nat.mul_add_mod,Nat.mod_eq_of_lt (by omega)]
  have f1:(i' * sz+t') / sz=i':=by rw [Nat.mul_comm,Nat.mul_add_div hpos,Nat.div_eq_of_lt ht2,Nat.add_zero]
  have f2:(i' * sz+t') % sz=t':=by rw [Nat.mul_comm,Nat.mul_add_mod,Nat.mod_eq_of_lt ht2]
  have g1:i=i':=by rw [← e1,e,f1]
  have g2:j=t':=by rw [← e2,e,f2]
  subst g1;subst g2
  exact hg
theorem CM_isl_v {sz:Nat} {xs:List (List C)} {z:Value} (h:CM hT r hS fz (.isl sz xs) (.v z)):z = .slice none 0 0∧xs=[]:=by
  unfold CM at h
  split at h<;>simp_all
theorem CM_msl_v {k sz off len:Nat} {z:Value} (h:CM hT r hS fz (.msl k sz off len) (.v z)):z = .slice none 0 0∧r k=none∧hT k ≠ none∧off=0∧len=0:=by
  unfold CM at h
  split at h<;>simp_all
theorem CM_z_v {z:Value} (h:CM hT r hS fz .z (.v z)):z = .slice none 0 0:=by
  unfold CM at h
  split at h<;>simp_all
theorem frozen_rc (H : SimH I w s hS) {k sz : Nat} {xs : List (List C)} {x : Value} (hk : k ∈ fz) (hh : hS k = some (some xs.flatten)) (hl : ∀ x ∈ xs, x.length = sz) (hkf : ∀ x ∈ xs, ∀ c ∈ x, kf c = true)
    (h:RC I w s x (.msl k sz 0 xs.length)) (s':Sg):RC (subI fz hS s I) w s' x (.isl sz xs):=by
  rcases rd_msl (.c _ _ h) with ⟨a,rfl,hs,_,h0⟩ | ⟨b,cap,arr,T,fr,rfl,hs,hlc,hb,hcp⟩
  · have:xs=[]:=List.eq_nil_of_length_eq_zero h0
    subst this
    exact .isl0 _ a 0 sz
  · obtain ⟨arr',T',hb',hl',hr⟩:=live_cells H hh hs
    rw [hb] at hb'
    simp only [Option.some.injEq,Obj.cells.injEq] at hb'
    obtain ⟨rfl,rfl,rfl⟩:=hb'
    have hfl:=flatten_length sz xs hl
    have hidx:∀ i j,i<xs.length→j<sz→i * sz+j<xs.flatten.length:=fun i j hi hj=>by
      have:(i+1) * sz≤xs.length * sz:=Nat.mul_le_mul_right _ hi
      rw [Nat.add_mul] at this
      omega
    refine .isl _ b 0 cap sz xs (fun i j=>arr.getD (i * sz+j) undef) (.inr ⟨k,hk,_,hh,hs⟩) (fun i hi=>hl _ (List.getElem_mem hi)) (fun i j hi hj=>?_) (fun i hi j hj=>?_) hlc
    · have:=hidx i j hi hj
      have hlt:i * sz+j<arr.size:=by omega
      simp [World.cell?,hb,hlt]
    · have hj':j<sz:=by rw [← hl _ (List.getElem_mem hi)];exact hj
      have hlt:=hidx i j hi hj'
      obtain ⟨y,hy,hry⟩:=hr (i * sz+j) hlt
      have e1:=flatten_at sz xs hl i j hi hj
      have e2:xs.flatten[i * sz+j]=(xs[i])[j]:=by
        rw [List.getElem?_eq_getElem hlt] at e1
        exact Option.some.inj e1
      have e3:arr.getD (i * sz+j) undef=y:=by
        rw [Array.getD_eq_getD_getElem?,hy];rfl
      rw [e3,← e2]
      exact hry.keyfree (by rw [e2];exact hkf _ (List.getElem_mem hi) _ (List.getElem_mem hj)) (fun _ h => .inl h) _
mutual
theorem CM.rc (H : SimH I w s hS) : ∀ (c c' : C) {x : Value}, CM hT r hS fz c c' → RC I w s x c' → RC (subI fz hS s I) w (subS r hT s) x c
  | .unk,c',x,_,h => .unk _ _ h.one
  | .v y,c',x,hm,h=>by
    cases c' with
    | v z =>
      simp only [CM] at hm
      subst hm
      cases h with | v _ _ h1=>exact .v _ _ h1
    | _=>simp [CM] at hm
  | .z,c',x,hm,h=>by
    cases c' with
    | z=>cases h with | z _ a=>exact .z _ a
    | v z =>
      have e:=CM_z_v hm
      subst e
      cases h with | v _ _ h1=>exact .z _ none
    | _=>simp [CM] at hm
  | .eptr cs,c',x,hm,h=>by
    cases c' with
    | eptr cs' =>
      simp only [CM] at hm
      subst hm
      exact h.keyfree rfl (fun _ h => .inl h) _
    | ptr k off =>
      simp only [CM] at hm
      obtain ⟨rfl,hk,hh,hkf⟩:=hm
      cases h with
      | ptr _ _ b _ hs =>
        obtain ⟨arr,T,hb,hl,hr⟩:=live_cells H hh hs
        refine .eptr _ b 0 cs (fun j=>arr.getD j undef) (.inr ⟨k,hk,_,hh,hs⟩) (fun j hj=>?_) (fun j hj=>?_)
        · have hlt:j<arr.size:=by omega
          simp [World.cell?,hb,hlt]
        · obtain ⟨y,hy,hry⟩:=hr j hj
          have e3:arr.getD j undef=y:=by
            rw [Array.getD_eq_getD_getElem?,hy];rfl
          rw [e3]
          exact hry.keyfree (hkf _ (List.getElem_mem hj)) (fun _ h => .inl h) _
    | _=>simp [CM] at hm
  | .met f cs,c',x,hm,h=>by
    cases c' with
    | met f' cs' =>
      simp only [CM] at hm
      obtain ⟨rfl,rfl⟩:=hm
      exact h.keyfree rfl (fun _ h => .inl h) _
    | _=>simp [CM] at hm
  | .ptr k off,c',x,hm,h=>by
    cases c' with
    | ptr k' off' =>
      simp only [CM] at hm
      obtain ⟨h1,h2,rfl⟩:=hm
      cases h with | ptr _ _ b _ h=>exact .ptr _ k b off (by rw [subS_some h2 h1];exact h)
    | _=>simp [CM] at hm
  | .msl k sz off len,c',x,hm,h=>by
    cases c' with
    | msl k' sz' off' len' =>
      simp only [CM] at hm
      obtain ⟨h1,h2,rfl,rfl,rfl⟩:=hm
      cases h with
      | msl0 _ a _ _ h=>exact .msl0 _ a k sz (by rw [subS_some h2 h1];exact h)
      | msl _ _ b _ _ _ cap arr T fr h hlen hb hcap=>exact .msl _ k b sz off len cap arr T fr (by rw [subS_some h2 h1];exact h) hlen hb hcap
    | v z =>
      obtain ⟨rfl,h1,h2,rfl,rfl⟩:=CM_msl_v hm
      cases h with | v _ _ _=>exact .msl0 _ none k sz (subS_none h2 h1)
    | z =>
      simp only [CM] at hm
      obtain ⟨h1,h2,rfl,rfl⟩:=hm
      cases h with | z _ a=>exact .msl0 _ a k sz (subS_none h2 h1)
    | _=>simp [CM] at hm
  | .clo f cs,c',x,hm,h=>by
    cases c' with
    | clo f' cs' =>
      simp only [CM] at hm
      obtain ⟨rfl,hm⟩:=hm
      cases h with
      | clo _ _ _ vs hl hr =>
        obtain ⟨h1,h2⟩:=CMs.rcs H cs cs' vs.toList hm ⟨by simpa using hl,fun j g1 g2=>by simpa using hr j (by simpa using g1) g2⟩
        refine .clo _ f cs vs (by simpa using h1) fun j g1 g2=>?_
        have:=h2 j (by simpa using g1) g2
        simpa using this
    | _=>simp [CM] at hm
  | .isl sz xs,c',x,hm,h=>by
    cases c' with
    | isl sz' xs' =>
      simp only [CM] at hm
      obtain ⟨rfl,rfl⟩:=hm
      exact h.keyfree rfl (fun _ h => .inl h) _
    | z =>
      simp only [CM] at hm
      subst hm
      cases h with | z _ a=>exact .isl0 _ a 0 sz
    | v z =>
      obtain ⟨rfl,rfl⟩:=CM_isl_v hm
      cases h with | v _ _ _=>exact .isl0 _ none 0 sz
    | msl k sz' off len =>
      simp only [CM] at hm
      obtain ⟨⟨rfl,rfl,rfl⟩,hk,hh,hl,hkf⟩:=hm
      exact frozen_rc H hk hh hl hkf h _
    | _=>simp [CM] at hm
theorem CMs.rcs (H : SimH I w s hS) : ∀ (cs cs' : List C) (vs : List Value), CMs hT r hS fz cs cs' → RCs I w s vs.toArray cs' → RCs (subI fz hS s I) w (subS r hT s) vs.toArray cs
  | [],cs',vs,hm,h=>by
    simp only [CMs] at hm
    subst hm
    exact ⟨h.1,fun j h1 h2=>by simp at h2⟩
  | c :: cs,[],vs,hm,h=>by simp [CMs] at hm
  | c :: cs,c' :: cs',vs,hm,h=>by
    simp only [CMs] at hm
    obtain ⟨h1,h2⟩:=hm
    match vs,h with
    | [],h=>have:=h.1;simp at this
    | v :: vs,h =>
      have ih:=CMs.rcs H cs cs' vs h2 ⟨by have:=h.1;simpa using this,fun j g1 g2=>h.2 (j+1) (by simpa using g1) (by simpa using g2)⟩
      refine ⟨by have:=ih.1;simpa using this,fun j g1 g2=>?_⟩
      cases j with
      | zero=>exact CM.rc H c c' h1 (h.2 0 (by simp) (by simp))
      | succ j=>exact ih.2 j (by simpa using g1) (by simpa using g2)
end
mutual
theorem DM.rd (H : SimH I w s hS) : ∀ (d d' : D) {x : Value}, DM hT r hS fz d d' → RD I w s x d' → RD (subI fz hS s I) w (subS r hT s) x d
  | .c a,d',x,hm,h=>by
    cases d' with
    | c b =>
      simp only [DM] at hm
      cases h with | c _ _ h=>exact .c _ _ (CM.rc H a b hm h)
    | _=>simp [DM] at hm
  | .agg as,d',x,hm,h=>by
    cases d' with
    | agg bs =>
      simp only [DM] at hm
      cases h with
      | agg vs _ hl hr =>
        obtain ⟨h1,h2⟩:=CMs.rcs H as bs vs.toList hm ⟨by simpa using hl,fun j g1 g2=>by simpa using hr j (by simpa using g1) g2⟩
        exact .agg vs as (by simpa using h1) fun j g1 g2=>by simpa using h2 j (by simpa using g1) g2
    | _=>simp [DM] at hm
  | .tup as,d',x,hm,h=>by
    cases d' with
    | tup bs =>
      simp only [DM] at hm
      cases h with
      | tup vs _ hl hr =>
        obtain ⟨h1,h2⟩:=DMs.rds H as bs vs.toList hm ⟨by simpa using hl,fun j g1 g2=>by simpa using hr j (by simpa using g1) g2⟩
        exact .tup vs as (by simpa using h1) fun j g1 g2=>by simpa using h2 j (by simpa using g1) g2
    | _=>simp [DM] at hm
  | .when b a,d',x,hm,h=>by
    cases d' with
    | when b' y =>
      simp only [DM] at hm
      obtain ⟨rfl,hm⟩:=hm
      cases h with | when _ _ _ h h0=>exact .when x b a (fun hb=>DM.rd H a y hm (h hb)) h0
    | _=>simp [DM] at hm
theorem DMs.rds (H : SimH I w s hS) : ∀ (ds ds' : List D) (vs : List Value), DMs hT r hS fz ds ds' → RDs I w s vs.toArray ds' → RDs (subI fz hS s I) w (subS r hT s) vs.toArray ds
  | [],ds',vs,hm,h=>by
    simp only [DMs] at hm
    subst hm
    exact ⟨h.1,fun j h1 h2=>by simp at h2⟩
  | d :: ds,[],vs,hm,h=>by simp [DMs] at hm
  | d :: ds,d' :: ds',vs,hm,h=>by
    simp only [DMs] at hm
    obtain ⟨h1,h2⟩:=hm
    match vs,h with
    | [],h=>have:=h.1;simp at this
    | v :: vs,h =>
      have ih:=DMs.rds H ds ds' vs h2 ⟨by have:=h.1;simpa using this,fun j g1 g2=>h.2 (j+1) (by simpa using g1) (by simpa using g2)⟩
      refine ⟨by have:=ih.1;simpa using this,fun j g1 g2=>?_⟩
      cases j with
      | zero=>exact DM.rd H d d' h1 (h.2 0 (by simp) (by simp))
      | succ j=>exact ih.2 j (by simpa using g1) (by simpa using g2)
end
theorem SubH.sim (hs:SubH m r fz hT hS) (H:SimH I w s hS):SimH (subI fz hS s I) w (subS r hT s) hT∧Ext m I w s hS (subI fz hS s I) w (subS r hT s) hT:=by
  have hliv:∀ k cs b,hT k=some (some cs)→subS r hT s k=some (some b)→∃ k' cs',r k=some k'∧k' ∉ fz∧hS k'=some (some cs')∧CMs hT r hS fz cs cs'∧s k'=some (some b):=fun k cs b hk hb=>by
    have hne:hT k ≠ none:=by rw [hk];simp
    rcases hs.live k cs hk with ⟨k',cs',h1,h2,h3,h4⟩ | ⟨h1,_⟩
    · rw [subS_some hne h1] at hb
      exact ⟨k',cs',h1,h2,h3,h4,hb⟩
    · rw [subS_none hne h1] at hb;cases hb
  refine ⟨⟨fun k hk=>by simp [subS,hk],fun k cs hk=>?_,fun k k' b cs cs' h1 h2 h3 h4=>?_,fun b hb=>?_⟩,
    ⟨rfl,rfl,rfl,Nat.le_refl _,fun _ _ _=>rfl,Shp.refl w,fun k hk=>?_,fun _ h => .inl h,fun b hb=>?_,fun b ⟨k,cs,hk,hb⟩=>?_⟩⟩
  · have hne:hT k ≠ none:=by rw [hk];simp
    rcases hs.live k cs hk with ⟨k',cs',h1,h2,h3,h4⟩ | ⟨h1,h2⟩
    · rw [subS_some hne h1]
      rcases H.blk k' cs' h3 with ⟨g1,g2⟩ | ⟨b,arr,T,g1,g2,g3,g4,g5⟩
      · subst g2
        refine .inl ⟨g1,?_⟩
        cases cs with
        | nil=>rfl
        | cons c r=>simp [CMs] at h4
      · have hlen:cs.length=cs'.length:=by
          have:∀ (as bs:List C),CMs hT r hS fz as bs→as.length=bs.length:=by
            intro as
            induction as with
            | nil=>intro bs h;simp only [CMs] at h;subst h;rfl
            | cons a as ih =>
              intro bs h
              cases bs with
              | nil=>simp [CMs] at h
              | cons b bs=>simp only [CMs] at h;simp [ih bs h.2]
          exact this _ _ h4
        have hrs:RCs I w s (arr.toList.take cs'.length).toArray cs':=by
          refine ⟨by simp;omega,fun j q1 q2=>?_⟩
          obtain ⟨y,hy,hry⟩:=g5 j q2
          obtain ⟨hlt,e⟩:=Array.getElem?_eq_some_iff.1 hy
          simpa [e] using hry
        have hrt:=CMs.rcs H cs cs' _ h4 hrs
        refine .inr ⟨b,arr,T,g1,g2,by omega,fun hb=>?_,fun j hj=>?_⟩
        · rcases hb with hb | ⟨k2,hk2,cs2,e1,e2⟩
          · exact g4 hb
          · have:=H.inj k' k2 b cs' cs2 h3 e1 g1 e2
            exact h2 (this ▸ hk2)
        · have hja:j<arr.size:=by omega
          refine ⟨arr[j],by simp [hja],?_⟩
          have:=hrt.2 j (by simp;omega) hj
          simpa using this
    · rw [subS_none hne h1]
      exact .inl ⟨rfl,h2⟩
  · obtain ⟨j1,c1,a1,_,a3,_,a5⟩:=hliv k cs b h1 h3
    obtain ⟨j2,c2,b1,_,b3,_,b5⟩:=hliv k' cs' b h2 h4
    have:=H.inj j1 j2 b c1 c2 a3 b3 a5 b5
    subst this
    exact hs.inj k k' cs cs' j1 h1 h2 a1 b1
  · rcases hb with hb | ⟨k2,_,cs2,e1,e2⟩
    · exact H.imm b hb
    · exact (H.live_lt ⟨k2,cs2,e1,e2⟩).1
  · obtain ⟨h1,h2⟩:=hs.low k hk
    exact subS_some h2 h1
  · rcases hb with hb | ⟨k2,_,cs2,e1,e2⟩
    · exact .inl hb
    · exact .inr (.inl ⟨k2,cs2,e1,e2⟩)
  · obtain ⟨k',cs',_,_,h3,_,h5⟩:=hliv k cs b hk hb
    exact .inl ⟨k',cs',h3,h5⟩
end
def TmOK (hT : Hp) (r : Nat → Option Nat) (hS : Hp) (fz : List Nat) (tS : Nat → Option D) : List (Nat × D) → Prop
  | []=>True
  | (n,d) :: l=>(match tS n with | some d'=>DM hT r hS fz d d' | none=>False)∧TmOK hT r hS fz tS l
def HpOK (hT : Hp) (r : Nat → Option Nat) (hS : Hp) (fz : List Nat) : List (Nat × Option (List C)) → Prop
  | []=>True
  | (k,x) :: l=>(match x with
    | some cs=>(match r k with | some k'=>k' ∉ fz∧(match hS k' with | some (some cs')=>CMs hT r hS fz cs cs' | _=>False) | none=>cs=[])
    | none=>True)∧HpOK hT r hS fz l
def LowOK (r : Nat → Option Nat) (hT : Hp) : Nat → Prop
  | 0=>True
  | m+1=>(r m=some m∧hT m ≠ none)∧LowOK r hT m
def Mt (m:Nat) (r:Nat→Option Nat) (fz:List Nat) (tl:List (Nat × D)) (hl:List (Nat × Option (List C))) (S:Ms):Prop :=
  TmOK (hOf hl) r S.hp fz S.tm tl∧HpOK (hOf hl) r S.hp fz hl∧LowOK r (hOf hl) m∧((hl.map (·.1)).filterMap r).Nodup
section
variable {P:Program} {m:Nat} {f:FuncId} {nt:Nat} {R:D→List (Option (List C))→Prop}
theorem hOf_mem : ∀ {hl : List (Nat × Option (List C))} {k : Nat} {x : Option (List C)}, hOf hl k = some x → (k, x) ∈ hl
  | [],k,x,h=>by simp [hOf] at h
  | (j,y) :: l,k,x,h=>by
    simp only [hOf,upd] at h
    split at h
    · rename_i e
      simp only [Option.some.injEq] at h
      rw [e,h];simp
    · simp [hOf_mem h]
theorem HpOK.at {hT:Hp} {r:Nat→Option Nat} {hS:Hp} {fz:List Nat}:∀ {hl:List (Nat × Option (List C))},HpOK hT r hS fz hl→∀ k cs,(k,some cs) ∈ hl →
    (∃ k' cs',r k=some k'∧k' ∉ fz∧hS k'=some (some cs')∧CMs hT r hS fz cs cs')∨(r k=none∧cs=[])
  | [],_,_,_,h=>by simp at h
  | (j,y) :: l,h,k,cs,hm=>by
    simp only [HpOK] at h
    rcases List.mem_cons.1 hm with e | hm
    · have e1:k=j:=congrArg Prod.fst e
      have e2:some cs=y:=congrArg Prod.snd e
      have h1:=h.1
      rw [← e2] at h1
      rw [e1]
      simp only at h1
      cases hr:r j with
      | none=>rw [hr] at h1;exact .inr ⟨rfl,h1⟩
      | some k' =>
        rw [hr] at h1
        obtain ⟨h2,h3⟩:=h1
        split at h3
        · rename_i cs' hcs
          exact .inl ⟨k',cs',rfl,h2,hcs,h3⟩
        · exact h3.elim
    · exact HpOK.at h.2 k cs hm
theorem filterMap_inj {r : Nat → Option Nat} : ∀ {l : List Nat}, (l.filterMap r).Nodup → ∀ a b j, a ∈ l → b ∈ l → r a = some j → r b = some j → a = b
  | [],_,_,_,_,h,_,_,_=>by simp at h
  | x :: l,hn,a,b,j,ha,hb,h1,h2=>by
    rcases List.mem_cons.1 ha with rfl | ha'<;>rcases List.mem_cons.1 hb with rfl | hb'
    · rfl
    · rw [List.filterMap_cons_some h1] at hn
      exact absurd (List.mem_filterMap.2 ⟨b,hb',h2⟩) (List.nodup_cons.1 hn).1
    · rw [List.filterMap_cons_some h2] at hn
      exact absurd (List.mem_filterMap.2 ⟨a,ha',h1⟩) (List.nodup_cons.1 hn).1
    · have hn':(l.filterMap r).Nodup:=by
        cases hx:r x with
        | none=>rwa [List.filterMap_cons_none hx] at hn
        | some y=>rw [List.filterMap_cons_some hx] at hn;exact (List.nodup_cons.1 hn).2
      exact filterMap_inj hn' a b j ha' hb' h1 h2
theorem LowOK.at {r : Nat → Option Nat} {hT : Hp} : ∀ {m : Nat}, LowOK r hT m → ∀ k, k < m → r k = some k ∧ hT k ≠ none
  | 0,_,k,h=>by omega
  | m+1,h,k,hk=>by
    rcases Nat.lt_or_ge k m with h1 | h1
    · exact (LowOK.at h.2) k h1
    · rw [show k=m from by omega];exact h.1
theorem Mt.subH {r : Nat → Option Nat} {fz : List Nat} {tl : List (Nat × D)} {hl : List (Nat × Option (List C))} {S : Ms} (h : Mt m r fz tl hl S) : SubH m r fz (hOf hl) S.hp where
  live:=fun k cs hk=>HpOK.at h.2.1 k cs (hOf_mem hk)
  inj:=fun k k' cs cs' j h1 h2 h3 h4=>filterMap_inj h.2.2.2 k k' j (List.mem_map.2 ⟨_,hOf_mem h1,rfl⟩) (List.mem_map.2 ⟨_,hOf_mem h2,rfl⟩) h3 h4
  low:=h.2.2.1.at
theorem TmOK.at {hT : Hp} {r : Nat → Option Nat} {hS : Hp} {fz : List Nat} {tS : Nat → Option D} : ∀ {tl : List (Nat × D)}, TmOK hT r hS fz tS tl → ∀ n d, tOf tl n = some d → ∃ d', tS n = some d' ∧ DM hT r hS fz d d'
  | [],_,n,d,h=>by simp [tOf] at h
  | (k,x) :: l,h,n,d,hn=>by
    simp only [TmOK] at h
    simp only [tOf,upd] at hn
    split at hn
    · rename_i e
      simp only [Option.some.injEq] at hn
      subst e;subst hn
      have h1:=h.1
      split at h1
      · rename_i d' hd'
        exact ⟨d',hd',h1⟩
      · exact h1.elim
    · exact TmOK.at h.2 n d hn
theorem Go.sub {r:Nat→Option Nat} {fz:List Nat} {tl:List (Nat × D)} {hl:List (Nat × Option (List C))} {S:Ms} {k:List Item} (nx:Nat) (h:Mt m r fz tl hl S) (hg:Go P m f nt R k ⟨tOf tl,hOf hl,nx⟩):Go P m f nt R k S:=fun I w s a hR cs=>by
  obtain ⟨H',E'⟩:=h.subH.sim hR.H
  have hR':Rc (subI fz S.hp s I) w (subS r (hOf hl) s) a (tOf tl) (hOf hl) nt:=⟨H',fun n d hd=>by
    obtain ⟨d',h1,h2⟩:=h.1.at n d hd
    exact DM.rd hR.H d d' h2 (hR.tm n d' h1),hR.df,hR.sz⟩
  obtain ⟨v,w',fr,I',s',d,h',g1,g2,g3,g4,g5,g6,g7⟩:=hg _ w _ a hR' cs
  exact ⟨v,w',fr,I',s',d,h',g1,g2,g3,E'.trans g4,g5,g6,g7⟩
theorem RetOb.of {d:D} {hp:Hp} (r:Nat→Option Nat) (fz:List Nat) (d':D) (h':List (Option (List C))) (hs:SubH m r fz (hpL h') hp) (hd:DM (hpL h') r hp fz d' d) (hR:R d' h') (hm:m≤h'.length):RetOb m R d hp :=
  fun I w s v H hv=>by
    obtain ⟨H',E'⟩:=hs.sim H
    exact ⟨_,_,d',h',hR,DM.rd H d' d hd hv,H',E',hm⟩
theorem Go.loopL {X : Type} {c : Code} {k : List Item} (tl : X → List (Nat × D)) (hl : X → List (Nat × Option (List C))) (nx : Nat) (Inv : X → Prop) (μ : X → Nat)
    (round:∀ x,Inv x→(∀ x' r fz S',Inv x'→μ x' < μ x→Mt m r fz (tl x') (hl x') S'→Go P m f nt R (.inLoop c :: k) S')→Go P m f nt R (.code c :: .inLoop c :: k) ⟨tOf (tl x),hOf (hl x),nx⟩) :
    ∀ x r fz S,Inv x→Mt m r fz (tl x) (hl x) S→Go P m f nt R (.code (.loop c) :: k) S:=by
  intro x r fz S hI hM
  refine Go.loop (Go.sub nx hM ?_)
  exact round x hI fun x' r' fz' S' hi' hlt hm'=>Go.rounds (P:=P) (m:=m) (f:=f) (nt:=nt) (R:=R) (c:=c) (k:=k) (fun x S=>Inv x∧∃ r fz,Mt m r fz (tl x) (hl x) S) μ (fun x S ⟨hi,r,fz,hm⟩ ih =>
    Go.sub nx hm (round x hi fun x' r' fz' S' hi' hlt hm'=>ih x' S' hlt ⟨hi',r',fz',hm'⟩)) x' S' ⟨hi',r',fz',hm'⟩
end
end Go.CT
