/- A region, whole: in the order of the text, or in whatever order is drawn. -/
import Derived.Test.YtlapccpnilomfaaJAf
set_option linter.unusedVariables false
set_option linter.unusedSimpArgs false
set_option linter.unusedSectionVars false
set_option maxHeartbeats 16000000
set_option maxRecDepth 100000
namespace Go.CT
variable [Yn]
theorem fold_bits (acc:Array Nat) (j:Nat):∀ (l:List Edge) (s:Nat),(l.foldl (fun s e=>if Region.binds .any e then s ||| 2 ^ e.on ||| acc.getD e.on 0 else s) s).testBit j=true →
    s.testBit j=true∨∃ e ∈ l,Region.binds .any e=true∧(e.on=j∨(acc.getD e.on 0).testBit j=true)
  | [],s,h => .inl h
  | e :: r,s,h=>by
    simp only [List.foldl_cons] at h
    rcases fold_bits acc j r _ h with h1 | ⟨e',he',hb,h2⟩
    · by_cases hb:Region.binds .any e=true
      · rw [if_pos hb] at h1
        simp only [Nat.testBit_or,Bool.or_eq_true] at h1
        rcases h1 with (h1 | h1) | h1
        · exact .inl h1
        · rw [Nat.testBit_two_pow] at h1
          exact .inr ⟨e,by simp,hb,.inl (of_decide_eq_true h1)⟩
        · exact .inr ⟨e,by simp,hb,.inr h1⟩
      · rw [if_neg hb] at h1
        exact .inl h1
    · exact .inr ⟨e',by simp [he'],hb,h2⟩
theorem before_aux (j:Nat):∀ (l:List Oper) (acc:Array Nat),∃ R:Array Nat,
    l.foldl (fun acc o=>acc.push (o.after.foldl (fun s e=>if Region.binds .any e then s ||| 2 ^ e.on ||| acc.getD e.on 0 else s) 0)) acc=R∧(∀ k,k<acc.size→R[k]? = acc[k]?) ∧
      ∀ k o,l[k]? = some o→(R.getD (acc.size+k) 0).testBit j=true→∃ e ∈ o.after,Region.binds .any e=true∧(e.on=j∨(R.getD e.on 0).testBit j=true)
  | [],acc=>⟨acc,rfl,fun _ _=>rfl,fun k o h=>by simp at h⟩
  | o :: r,acc=>by
    obtain ⟨R,hR,h1,h2⟩:=before_aux j r (acc.push (o.after.foldl (fun s e=>if Region.binds .any e then s ||| 2 ^ e.on ||| acc.getD e.on 0 else s) 0))
    refine ⟨R,hR,fun k hk=>?_,fun k o' hk hb=>?_⟩
    · rw [h1 k (by simp;omega),Array.getElem?_push,if_neg (by omega)]
    · cases k with
      | succ k=>exact h2 k o' (by simpa using hk) (by rw [Array.size_push,show acc.size+1+k=acc.size+(k+1) from by omega];exact hb)
      | zero =>
        simp only [List.getElem?_cons_zero,Option.some.injEq] at hk
        subst hk
        have e1:R.getD (acc.size+0) 0=o.after.foldl (fun s e=>if Region.binds .any e then s ||| 2 ^ e.on ||| acc.getD e.on 0 else s) 0:=by
          rw [Array.getD_eq_getD_getElem?,h1 _ (by simp)]
          simp
        rw [e1,← Array.foldl_toList] at hb
        rcases fold_bits acc j o.after.toList 0 hb with h3 | ⟨e,he,hbe,h3⟩
        · simp at h3
        · refine ⟨e,by simpa using he,hbe,h3.imp id fun h4=>?_⟩
          have hlt:e.on<acc.size:=by
            rcases Nat.lt_or_ge e.on acc.size with h5 | h5
            · exact h5
            · simp [Array.getD_eq_getD_getElem?,Array.getElem?_eq_none h5] at h4
          have:R.getD e.on 0=acc.getD e.on 0:=by
            rw [Array.getD_eq_getD_getElem?,Array.getD_eq_getD_getElem?,h1 _ (by simp;omega),Array.getElem?_push,if_neg (by omega)]
          rw [this];exact h4
theorem ord_edge {all:Array Oper} {i j:Nat} {o:Oper} (ho:all[i]? = some o) (h:ord all j i=true):∃ e ∈ o.after,Region.binds .any e=true∧(e.on=j∨ord all j e.on=true):=by
  obtain ⟨R,hR,_,h2⟩:=before_aux j all.toList #[]
  have e1:Region.before all=R:=by
    rw [← hR]
    simp only [Region.before]
    rw [← Array.foldl_toList]
  simp only [ord,e1] at h ⊢
  have:=h2 i o (by simpa using ho) (by simpa using h)
  exact this
section
variable {P:Program} {m nx nt:Nat} {all:Array Oper}
theorem dop_mono2 {dr:Bool} {i:Nat} {o:Oper} {K K':Rs→Prop} {S:Rs} (h:∀ S' p,S'.lg=upd S.lg i (some p)→K S'→K' S') (hd:dop P m nx nt all dr i o K S):dop P m nx nt all dr i o K' S :=
  let ⟨rd,wr,T,h1,h2,h3,h4⟩:=hd
  ⟨rd,wr,T,h1,h2,h3,fun d up ht=>h _ _ rfl (h4 d up ht)⟩
theorem drawOK_pair (h:drawOK all=true) {i j:Nat} (hij:j<i) {x y:Oper} (hx:all[i]? = some x) (hy:all[j]? = some y) (ho:ord all j i=false):ord all i j=false∧x.apart all y=true∧(isFn x && isFn y)=false:=by
  simp only [drawOK,Bool.and_eq_true,List.all_eq_true,List.mem_range] at h
  have hi:=(Array.getElem?_eq_some_iff.1 hx).1
  have hj:=(Array.getElem?_eq_some_iff.1 hy).1
  have:=h.2 i hi j hj
  have h3:ord all i j=false∧x.apart all y=true∧(isFn x=false∨isFn y=false):=by
    simpa [hx,hy,ho,show ¬ i≤j from by omega] using this
  exact ⟨h3.1,h3.2.1,by rcases h3.2.2 with h | h<;>simp [h]⟩
theorem drawOK_edge (h:drawOK all=true) {i:Nat} {x:Oper} (hx:all[i]? = some x) {e:Edge} (he:e ∈ x.after) (hb:Region.binds .any e=true):e.on<i:=by
  simp only [drawOK,Bool.and_eq_true,List.all_eq_true,List.mem_range] at h
  have hi:=(Array.getElem?_eq_some_iff.1 hx).1
  have:=h.1.2 i hi
  simp only [hx,Array.all_eq_true_iff_forall_mem,Bool.or_eq_true,Bool.not_eq_true',decide_eq_true_eq] at this
  rcases this e he with h1 | h1
  · rw [hb] at h1;cases h1
  · exact h1
theorem apart_symm {x y:Oper} (h:x.apart all y=true):y.apart all x=true:=by
  obtain ⟨a1,a2,a3⟩:=Oper.apart_spec h
  simp only [Oper.apart,Bool.and_eq_true]
  constructor
  · cases hd:y.dst with
    | none=>rfl
    | some d =>
      have:=a3 d hd
      have h3:x.dst ≠ some d:=fun e=>a2 d e hd
      simp [this,h3]
  · cases hd:x.dst with
    | none=>rfl
    | some d=>simp [a1 d hd]
theorem dops_front (hD:drawOK all=true) {i:Nat} {o:Oper} (ho:all[i]? = some o) {K:Rs→Prop}:∀ (pre post:List Nat) {S:Rs},(∀ j ∈ pre,j<i)→(∀ j ∈ pre,ord all j i=false)→S.lg i=none→(∀ j ∈ pre,S.lg j=none)→pre.Nodup →
    dops P m nx nt all true K (pre++i :: post) S→dop P m nx nt all true i o (dops P m nx nt all true K (pre++post)) S
  | [],post,S,_,_,_,_,_,h=>by simpa only [List.nil_append,dops,ho] using h
  | j :: pre,post,S,hlt,hno,hli,hlj,hnd,h=>by
    simp only [List.cons_append,dops] at h
    cases hj:all[j]? with
    | none=>simp only [hj] at h
    | some oj =>
      simp only [hj] at h
      have hji:=hlt j (by simp)
      obtain ⟨h1,h2,h3⟩:=drawOK_pair hD hji ho hj (hno j (by simp))
      have hnd':=List.nodup_cons.1 hnd
      have h4:dop P m nx nt all true j oj (dop P m nx nt all true i o (dops P m nx nt all true K (pre++post))) S:=by
        refine dop_mono2 (fun S' p hl hK=>?_) h
        refine dops_front hD ho pre post (fun k hk=>hlt k (by simp [hk])) (fun k hk=>hno k (by simp [hk])) ?_ (fun k hk=>?_) hnd'.2 hK
        · rw [hl,upd_ne _ _ (by omega)];exact hli
        · rw [hl,upd_ne _ _ (fun e:k=j=>hnd'.1 (by rw [← e];exact hk))];exact hlj k (by simp [hk])
      have hi':=(Array.getElem?_eq_some_iff.1 ho).1
      have hj':=(Array.getElem?_eq_some_iff.1 hj).1
      have h5:=dop_swap hj' hi' (by omega) (apart_symm h2) (by rw [Bool.and_comm];exact h3) (hno j (by simp)) h1 (hlj j (by simp)) hli h4
      refine dop_mono (fun S' hS=>?_) h5
      simp only [List.cons_append,dops,hj]
      exact hS
theorem draws_run (hD:drawOK all=true) {K:Rs→Prop} {Q:Exit→Act→World→Prop}:∀ (n:Nat) (T:List Nat) (listed:Array Bool) {I:Nat→Prop} {w:World} {s:Sg} {a:Act} {S:Rs},T.length=n→T.Pairwise (· < ·)→(∀ i ∈ T,i<all.size)→listed.size=all.size →
    (∀ i,i<all.size→(listed.getD i true=false ↔ i ∈ T))→(∀ i j,i<all.size→listed.getD i true=true→ord all j i=true→listed.getD j true=true)→(∀ i ∈ T,S.lg i=none)→Rc I w s a S.tm S.hp nt→dops P m nx nt all true K T S →
    (∀ a' w' I' s' S',K S'→Rc I' w' s' a' S'.tm S'.hp nt→Ext m I w s S.hp I' w' s' S'.hp→Q .normal a' w')→wpAny P .any all Q n listed a w:=by
  intro n
  induction n with
  | zero =>
    intro T listed I w s a S hT hP hlt hsz hl hdc hlg hR h hQ
    have:T=[]:=List.eq_nil_of_length_eq_zero hT
    subst this
    refine ⟨List.eq_nil_iff_forall_not_mem.2 fun i hi=>?_,hQ a w I s S h hR (Ext.refl _ _ _ _ _)⟩
    obtain ⟨h0,o,ho,_⟩:=mem_ready.1 hi
    have:=(hl i (Array.getElem?_eq_some_iff.1 ho).1).1 h0
    simp at this
  | succ n ih =>
    intro T listed I w s a S hT hP hlt hsz hl hdc hlg hR h hQ
    refine ⟨fun hr=>?_,fun i hi=>?_⟩
    · -- something can always be done
      exfalso
      cases hT':T with
      | nil=>rw [hT'] at hT;simp at hT
      | cons i r =>
        have hiT:i ∈ T:=by rw [hT'];simp
        have hi:=hlt i hiT
        have hmem:i ∈ Region.ready .any all listed:=by
          refine mem_ready.2 ⟨(hl i hi).2 hiT,all[i],by simp [hi],fun e he hb=>?_⟩
          have hlt':=drawOK_edge hD (Array.getElem?_eq_getElem hi) he hb
          cases hb':listed.getD e.on true with
          | true =>
            have hs:e.on<listed.size:=by omega
            simpa [Array.getD_eq_getD_getElem?,hs] using hb'
          | false =>
            have hm:=(hl e.on (by omega)).1 hb'
            rw [hT'] at hm hP
            rcases List.mem_cons.1 hm with h1 | h1
            · omega
            · have:=(List.pairwise_cons.1 hP).1 _ h1
              omega
        rw [hr] at hmem
        simp at hmem
    · obtain ⟨h0,o,ho,hall⟩:=mem_ready.1 hi
      have hilt:=(Array.getElem?_eq_some_iff.1 ho).1
      have hiT:=(hl i hilt).1 h0
      obtain ⟨pre,post,rfl⟩:=List.append_of_mem hiT
      have hlisted:∀ k,listed.getD k false=true→k<all.size∧listed.getD k true=true:=fun k hk=>by
        have:k<listed.size:=by
          rcases Nat.lt_or_ge k listed.size with h' | h'
          · exact h'
          · simp [Array.getD_eq_getD_getElem?,Array.getElem?_eq_none h'] at hk
        refine ⟨by omega,?_⟩
        simpa [Array.getD_eq_getD_getElem?,this] using hk
      have hnoord:∀ j,j ∈ pre++i :: post→ord all j i=false:=fun j hj=>by
        cases hb:ord all j i with
        | false=>rfl
        | true =>
          exfalso
          obtain ⟨e,he,hbe,hor⟩:=ord_edge ho hb
          obtain ⟨h1,h2⟩:=hlisted e.on (hall e he hbe)
          have hjl:listed.getD j true=true:=by
            rcases hor with rfl | hor
            · exact h2
            · exact hdc e.on j h1 h2 hor
          have:=(hl j (hlt j hj)).2 hj
          rw [hjl] at this;cases this
      have hpre:∀ j ∈ pre,j<i:=fun j hj=>(List.pairwise_append.1 hP).2.2 j hj i (by simp)
      have hP2:(pre++post).Pairwise (· < ·):=by
        refine hP.sublist ?_
        exact List.Sublist.append (List.Sublist.refl _) (List.sublist_cons_self _ _)
      have hndp:pre.Nodup:=((List.pairwise_append.1 hP).1).imp (fun h=>by omega)
      have hinot:i ∉ pre++post:=fun hm=>by
        rcases List.mem_append.1 hm with hm | hm
        · have:=hpre i hm;omega
        · have:=(List.pairwise_cons.1 (List.pairwise_append.1 hP).2.1).1 i hm;omega
      have hfr:=dops_front hD ho pre post hpre (fun j hj=>hnoord j (by simp [hj])) (hlg i (by simp)) (fun j hj=>hlg j (by simp [hj])) hndp h
      refine dop_run ho hR hfr fun a' w' I' s' S' hK hlg' hR' hE=>?_
      obtain ⟨p,hp⟩:=hlg'
      have hget:∀ k d,k<all.size→(listed.setIfInBounds i true).getD k d=if k=i then true else listed.getD k d:=fun k d hk=>by
        by_cases e:k=i
        · subst e
          simp [Array.getD_eq_getD_getElem?,hsz,hk]
        · rw [if_neg e]
          exact getD_set_ne d (fun e'=>e e'.symm)
      refine ih (pre ++ post) (listed.setIfInBounds i true) (by simp at hT ⊢; omega) hP2 (fun k hk => hlt k (by rcases List.mem_append.1 hk with h | h <;> simp [h])) (by simpa using hsz) (fun k hk => ?_) (fun k j hk hkl hkj => ?_) (fun k hk => ?_) hR' hK
        (fun a'' w'' I'' s'' S'' hK' hR'' hE'=>hQ a'' w'' I'' s'' S'' hK' hR'' (hE.trans hE'))
      · rw [hget k true hk]
        by_cases e:k=i
        · subst e
          simp only [if_true]
          exact ⟨fun h=>(by cases h),fun h=>absurd h hinot⟩
        · rw [if_neg e,hl k hk]
          simp only [List.mem_append,List.mem_cons]
          constructor
          · rintro (h | h | h)
            · exact .inl h
            · exact absurd h e
            · exact .inr h
          · rintro (h | h)
            · exact .inl h
            · exact .inr (.inr h)
      · rw [hget k true hk] at hkl
        by_cases hjs:j<all.size
        · rw [hget j true hjs]
          by_cases ej:j=i
          · rw [if_pos ej]
          · rw [if_neg ej]
            by_cases e:k=i
            · subst e
              cases hb:listed.getD j true with
              | true=>rfl
              | false =>
                have:=hnoord j ((hl j hjs).1 hb)
                rw [hkj] at this;cases this
            · rw [if_neg e] at hkl
              exact hdc k j hk hkl hkj
        · rw [Array.getD_eq_getD_getElem?,Array.getElem?_eq_none (by simp [hsz];omega)];rfl
      · rw [hp,upd_ne _ _ (fun e:k=i=>hinot (by rw [← e];exact hk))]
        exact hlg k (by rcases List.mem_append.1 hk with h | h<;>simp [h])
end
structure Ms where
  tm:Nat→Option D
  hp:Hp
  nx:Nat
def Nm (I:Nat→Prop) (w w':World):Prop:=∀ (b:Nat) (arr:Array Value) (T:TypeId) (fr:Nat × Nat),I b→w.heap[b]? = some (.cells arr T fr) →
  ∃ arr',w'.heap[b]? = some (.cells arr' T fr)∧arr'.size=arr.size∧∀ (j:Nat) (y:Value),arr[j]? = some y→arr'[j]? = some y∨∃ k n n',y = .int k n∧arr'[j]? = some (.int k n')
theorem Nm.keeps {I:Nat→Prop} {w w':World} (h:Keeps I w w'):Nm I w w':=fun b arr T fr hb e=>⟨arr,by rw [h b hb];exact e,rfl,fun j y hy => .inl hy⟩
structure ExtW (I : Nat → Prop) (w : World) (s : Sg) (hp : Hp) (I' : Nat → Prop) (w' : World) (s' : Sg) (hp' : Hp) : Prop where
  os:w'.os=w.os
  tape:w'.tape=w.tape
  output:w'.output=w.output
  size:w.heap.size≤w'.heap.size
  same:∀ b,b<w.heap.size→¬ (I b∧Yn.n≤b)→¬ Live s hp b→w'.heap[b]? = w.heap[b]?
  shp:Shp w w'
  num:Nm I w w'
  imm':∀ b,I' b→I b∨Live s hp b∨w.heap.size≤b
  live:∀ b,Live s' hp' b→Live s hp b∨w.heap.size≤b
theorem ExtW.trans {I I' I'' : Nat → Prop} {w w' w'' : World} {s s' s'' : Sg} {hp hp' hp'' : Hp} (H : SimH I w s hp) (h : ExtW I w s hp I' w' s' hp') (h' : ExtW I' w' s' hp' I'' w'' s'' hp'') : ExtW I w s hp I'' w'' s'' hp'' where
  os:=h'.os.trans h.os
  tape:=h'.tape.trans h.tape
  output:=h'.output.trans h.output
  size:=Nat.le_trans h.size h'.size
  same:=fun b hb hn hl=>(h'.same b (Nat.lt_of_lt_of_le hb h.size) (fun hi=>by
    rcases h.imm' b hi.1 with q | q | q
    · exact hn ⟨q,hi.2⟩
    · exact hl q
    · omega) fun hl'=>by
    rcases h.live b hl' with q | q
    · exact hl q
    · omega).trans (h.same b hb hn hl)
  shp:=h.shp.trans h'.shp
  num:=fun b arr T fr hb e=>by
    obtain ⟨a1,e1,z1,c1⟩:=h.num b arr T fr hb e
    have hlt:=H.imm b hb
    have hnl:¬ Live s hp b:=fun hl=>(H.live_lt hl).2 hb
    by_cases hi:I' b
    · obtain ⟨a2,e2,z2,c2⟩:=h'.num b a1 T fr hi e1
      refine ⟨a2,e2,by omega,fun j y hy=>?_⟩
      rcases c1 j y hy with q | ⟨k,n,n',rfl,q⟩
      · exact c2 j y q
      · rcases c2 j _ q with q2 | ⟨k2,n2,n2',e3,q2⟩
        · exact .inr ⟨k,n,n',rfl,q2⟩
        · cases e3
          exact .inr ⟨k,n,n2',rfl,q2⟩
    · refine ⟨a1,?_,z1,c1⟩
      rw [h'.same b (Nat.lt_of_lt_of_le hlt h.size) (fun q=>hi q.1) fun hl'=>by
        rcases h.live b hl' with q | q
        · exact hnl q
        · omega]
      exact e1
  imm':=fun b hb=>by
    rcases h'.imm' b hb with h1 | h1 | h1
    · exact h.imm' b h1
    · exact .inr (h.live b h1)
    · exact .inr (.inr (Nat.le_trans h.size h1))
  live:=fun b hb=>by
    rcases h'.live b hb with h1 | h1
    · exact h.live b h1
    · exact .inr (Nat.le_trans h.size h1)
theorem Ext.toW {m:Nat} {I I':Nat→Prop} {w w':World} {s s':Sg} {hp hp':Hp} (h:Ext m I w s hp I' w' s' hp') (H:SimH I w s hp):ExtW I w s hp I' w' s' hp' :=
  ⟨h.os,h.tape,h.output,h.size,fun b hb _ hl=>h.same b hb hl,h.shp,.keeps (h.keeps H),h.imm',h.live⟩
def ExtG (K:Bool) (m:Nat) (I:Nat→Prop) (w:World) (s:Sg) (hp:Hp) (I':Nat→Prop) (w':World) (s':Sg) (hp':Hp):Prop:=if K=true then ExtW I w s hp I' w' s' hp' else Ext m I w s hp I' w' s' hp'
theorem Ext.toG {K:Bool} {m:Nat} {I I':Nat→Prop} {w w':World} {s s':Sg} {hp hp':Hp} (h:Ext m I w s hp I' w' s' hp') (H:SimH I w s hp):ExtG K m I w s hp I' w' s' hp':=by
  unfold ExtG
  split
  · exact h.toW H
  · exact h
theorem ExtG.trans {K:Bool} {m:Nat} {I I' I'':Nat→Prop} {w w' w'':World} {s s' s'':Sg} {hp hp' hp'':Hp} (H:SimH I w s hp) (h:ExtG K m I w s hp I' w' s' hp') (h':ExtG K m I' w' s' hp' I'' w'' s'' hp''):ExtG K m I w s hp I'' w'' s'' hp'':=by
  unfold ExtG at h h' ⊢
  split at h
  · rename_i e
    rw [if_pos e] at h' ⊢
    exact h.trans H h'
  · rename_i e
    rw [if_neg e] at h' ⊢
    exact Ext.trans h h'
theorem Ext.transG {K:Bool} {m:Nat} {I I' I'':Nat→Prop} {w w' w'':World} {s s' s'':Sg} {hp hp' hp'':Hp} (h:Ext m I w s hp I' w' s' hp') (H:SimH I w s hp) (h':ExtG K m I' w' s' hp' I'' w'' s'' hp''):ExtG K m I w s hp I'' w'' s'' hp'' :=
  (h.toG H).trans H h'
def bf (f:FuncId):Frame:={ (default:Frame) with fn:=f,kind := .normal }
def Go (K:Bool) (P:Program) (m:Nat) (f:FuncId) (nt:Nat) (R:D→List (Option (List C))→Prop) (todo:List Item) (S:Ms):Prop :=
  ∀ I w s a,Rc I w s a S.tm S.hp nt→∀ cs,∃ v w' fr I' s' d h',R d h'∧RD I' w' s' v d∧SimH I' w' s' (hpL h')∧ExtG K m I w s S.hp I' w' s' (hpL h')∧m≤h'.length ∧
    Steps P (lone ((bf f).at a todo) cs w) (lone fr cs w')∧fr.fn=f∧fr.leaving P w' (.returned v)
structure Rg where
  all:Array Oper
  dr:Bool
  i:Nat
  rest:List Oper
  lg:Lg
  nx0:Nat
def Sub (m nt:Nat) (S S2:Rs):Prop:=∀ I w s a,Rc I w s a S.tm S.hp nt→∃ I' s',Rc I' w s' a S2.tm S2.hp nt∧Ext m I w s S.hp I' w s' S2.hp
theorem Sub.refl (m nt:Nat) (S:Rs):Sub m nt S S:=fun I w s a h=>⟨I,s,h,Ext.refl _ _ _ _ _⟩
theorem Sub.trans {m nt:Nat} {S S' S'':Rs} (h:Sub m nt S S') (h':Sub m nt S' S''):Sub m nt S S'':=fun I w s a hR=>by
  obtain ⟨I1,s1,R1,E1⟩:=h I w s a hR
  obtain ⟨I2,s2,R2,E2⟩:=h' I1 w s1 a R1
  exact ⟨I2,s2,R2,E1.trans E2⟩
def Pre (m nt:Nat) (dr:Bool) (S:Rs) (Φ:Rs→Prop):Prop:=(dr=true→Φ S)∧(dr=false→∃ S2,Sub m nt S S2∧Φ S2)
theorem Pre.intro {m nt:Nat} {dr:Bool} {S:Rs} {Φ:Rs→Prop} (h:Φ S):Pre m nt dr S Φ:=⟨fun _=>h,fun _=>⟨S,Sub.refl _ _ _,h⟩⟩
theorem Pre.sub {m nt:Nat} {S S':Rs} {Φ:Rs→Prop} (hs:Sub m nt S S') (h:Pre m nt false S' Φ):Pre m nt false S Φ :=
  ⟨fun e=>(Bool.false_ne_true e).elim,fun e=>let ⟨S2,h1,h2⟩:=h.2 e;⟨S2,hs.trans h1,h2⟩⟩
def wstep (P:Program) (nt:Nat) (all:Array Oper) (i:Nat) (o:Oper) (Φ:Rs→Prop) (S:Rs):Prop :=
  all[i]? = some o→∀ I w s a,Rc I w s a S.tm S.hp nt→∀ (Q:Exit→Act→World→Prop) (Kc:Act→World→Prop),(∀ a' w' I' s' S',Φ S'→Rc I' w' s' a' S'.tm S'.hp nt→ExtW I w s S.hp I' w' s' S'.hp→Kc a' w')→wpOp P all Q i Kc a w
def dopK (G:Bool) (P:Program) (m nx nt:Nat) (all:Array Oper) (dr:Bool) (i:Nat) (o:Oper) (K:Rs→Prop) (S:Rs):Prop:=dop P m nx nt all dr i o K S∨((G=true∧dr=false)∧wstep P nt all i o K S)
def dopsL (G : Bool) (P : Program) (m nx nt : Nat) (all : Array Oper) (dr : Bool) (K : Rs → Prop) : Nat → List Oper → Rs → Prop
  | _,[],S=>Pre m nt dr S K
  | i,o :: r,S=>Pre m nt dr S (dopK G P m nx nt all dr i o (dopsL G P m nx nt all dr K (i+1) r))
def XK (K : Bool) (P : Program) (m : Nat) (f : FuncId) (nt : Nat) (R : D → List (Option (List C)) → Prop) : Option Rg → List Item → Ms → Prop
  | none,k,S=>Go K P m f nt R k S
  | some g,k,S=>dopsL K P m g.nx0 nt g.all g.dr (fun S'=>Go K P m f nt R k ⟨S'.tm,S'.hp,g.nx0+64 * g.all.size⟩) g.i g.rest ⟨S.tm,S.hp,g.lg⟩
section
variable {K:Bool} {P:Program} {m:Nat} {f:FuncId} {nt:Nat} {R:D→List (Option (List C))→Prop}
theorem dopsL_dops {G : Bool} {nx : Nat} {all : Array Oper} {K : Rs → Prop} : ∀ (l : List Oper) (i : Nat) (S : Rs), (∀ j, l[j]? = all[i + j]?) → dopsL G P m nx nt all true K i l S → dops P m nx nt all true K (List.range' i l.length) S
  | [],i,S,_,h=>by
    simp only [dopsL] at h
    simpa [dops] using h.1 rfl
  | o :: r,i,S,hl,h=>by
    have h0:all[i]? = some o:=by simpa using (hl 0).symm
    simp only [List.length_cons,List.range'_succ,dops,h0]
    simp only [dopsL] at h
    have h1:dop P m nx nt all true i o (dopsL G P m nx nt all true K (i+1) r) S:=(h.1 rfl).elim id fun q=>Bool.noConfusion q.1.2
    refine dop_mono (fun S' hS=>?_) h1
    exact dopsL_dops r (i+1) S' (fun j=>by have:=hl (j+1);simpa [Nat.add_assoc,Nat.add_comm 1 j] using this) hS
theorem dopsL_run {G:Bool} {nx:Nat} {all:Array Oper} {K:Rs→Prop} {Q:Exit→Act→World→Prop}:∀ (l:List Oper) (i:Nat) {I:Nat→Prop} {w:World} {s:Sg} {a:Act} {S:Rs},(∀ j,l[j]? = all[i+j]?)→Rc I w s a S.tm S.hp nt →
    dopsL G P m nx nt all false K i l S→(∀ a' w' I' s' S',K S'→Rc I' w' s' a' S'.tm S'.hp nt→ExtG G m I w s S.hp I' w' s' S'.hp→Q .normal a' w')→wpOps P all Q (List.range' i l.length) a w
  | [],i,I,w,s,a,S,hl,hR,h,hQ=>by
    simp only [dopsL] at h
    obtain ⟨S2,hs,hK⟩:=h.2 rfl
    obtain ⟨I2,s2,R2,E2⟩:=hs I w s a hR
    exact hQ a w I2 s2 S2 hK R2 (E2.toG hR.H)
  | o :: r,i,I,w,s,a,S,hl,hR,h,hQ=>by
    have h0:all[i]? = some o:=by simpa using (hl 0).symm
    simp only [dopsL] at h
    obtain ⟨S2,hs,hd⟩:=h.2 rfl
    obtain ⟨I2,s2,R2,E2⟩:=hs I w s a hR
    simp only [List.length_cons,List.range'_succ]
    rw [wpOps_cons]
    rcases hd with hd | ⟨⟨rfl,_⟩,hd⟩
    · exact dop_run h0 R2 hd fun a' w' I' s' S' hK _ hR' hE => dopsL_run r (i + 1) (fun j => by have := hl (j + 1); simpa [Nat.add_assoc, Nat.add_comm 1 j] using this) hR' hK
        fun a'' w'' I'' s'' S'' hK' hR'' hE'=>hQ a'' w'' I'' s'' S'' hK' hR'' (E2.transG hR.H (hE.transG R2.H hE'))
    · exact hd h0 I2 w s2 a R2 _ _ fun a' w' I' s' S' hK hR' hE => dopsL_run r (i + 1) (fun j => by have := hl (j + 1); simpa [Nat.add_assoc, Nat.add_comm 1 j] using this) hR' hK
        fun a'' w'' I'' s'' S'' hK' hR'' hE'=>hQ a'' w'' I'' s'' S'' hK' hR'' (E2.transG hR.H (ExtG.trans (K:=true) (m:=m) R2.H (by unfold ExtG;rw [if_pos rfl];exact hE) hE'))
theorem Go.of_step {k k':List Item} {S:Ms} (hs:∀ (a:Act) (w:World) (cs:List Frame),step P (lone ((bf f).at a k) cs w) = .next (lone ((bf f).at a k') cs w)) (h:Go K P m f nt R k' S):Go K P m f nt R k S :=
  fun I w s a hR cs=>let ⟨v,w',fr,I',s',d,h',h1,h2,h3,h4,h5,h6,h7⟩:=h I w s a hR cs
  ⟨v,w',fr,I',s',d,h',h1,h2,h3,h4,h5,.head (hs a w cs) h6,h7⟩
theorem Go.seq {x y:Code} {k:List Item} {S:Ms} (h:Go K P m f nt R (.code x :: .code y :: k) S):Go K P m f nt R (.code (.seq x y) :: k) S := .of_step (fun _ _ _=>step_seq) h
theorem Go.skip {k:List Item} {S:Ms} (h:Go K P m f nt R k S):Go K P m f nt R (.code .skip :: k) S := .of_step (fun _ _ _=>step_skip) h
theorem Go.label {l:Nat} {k:List Item} {S:Ms} (h:Go K P m f nt R k S):Go K P m f nt R (.code (.label l) :: k) S := .of_step (fun _ _ _=>step_label) h
theorem Go.block {id:Nat} {c:Code} {k:List Item} {S:Ms} (h:Go K P m f nt R (.code c :: .inBlock id :: k) S):Go K P m f nt R (.code (.block id c) :: k) S := .of_step (fun _ _ _=>step_block) h
theorem Go.inBlock {id:Nat} {k:List Item} {S:Ms} (h:Go K P m f nt R k S):Go K P m f nt R (.inBlock id :: k) S := .of_step (fun _ _ _=>step_inBlock) h
theorem Go.loop {c:Code} {k:List Item} {S:Ms} (h:Go K P m f nt R (.code c :: .inLoop c :: k) S):Go K P m f nt R (.code (.loop c) :: k) S := .of_step (fun _ _ _=>step_loop) h
theorem Go.inLoop {c:Code} {k:List Item} {S:Ms} (h:Go K P m f nt R (.code c :: .inLoop c :: k) S):Go K P m f nt R (.inLoop c :: k) S := .of_step (fun _ _ _=>step_inLoop) h
theorem Go.exit {id:Nat} {k k':List Item} {S:Ms} (he:exitTo id k=some k') (h:Go K P m f nt R k' S):Go K P m f nt R (.code (.exit id) :: k) S := .of_step (fun _ _ _=>step_exit he) h
theorem Go.cond {c : Operand} {x y : Code} {k : List Item} {S : Ms} {d : D} {t : Bool} (hd : evT S.tm c = some d) (hp : peelB d = true) (hb : peelD d = DB t) (h1 : t = true → Go K P m f nt R (.code x :: k) S)
    (h2:t=false→Go K P m f nt R (.code y :: k) S):Go K P m f nt R (.code (.cond c x y) :: k) S:=fun I w s a hR cs=>by
  have hv:a.eval c = .bool t:=by
    have:=peel_sound (evT_sound hR.tm hd) hp
    rw [hb] at this
    exact (rd_scalar this).1
  have h:Go K P m f nt R (.code (if t=true then x else y) :: k) S:=by
    cases t with
    | true=>exact h1 rfl
    | false=>exact h2 rfl
  obtain ⟨v,w',fr,I',s',d',h',g1,g2,g3,g4,g5,g6,g7⟩:=h I w s a hR cs
  exact ⟨v,w',fr,I',s',d',h',g1,g2,g3,g4,g5,.head (step_cond hv) g6,g7⟩
theorem Go.region {id : Nat} {all : Array Oper} {dr : Bool} {k : List Item} {S : Ms} (hm : dr = true → P.follows .mixedOrders = true) (hD : dr = true → drawOK all = true)
    (h:XK K P m f nt R (some ⟨all,dr,0,all.toList,fun _=>none,S.nx⟩) k S):Go K P m f nt R (.code (.region id all dr) :: k) S:=fun I w s a hR cs=>by
  let Q:Exit→Act→World→Prop:=fun e a' w'=>e = .normal∧∃ (I':Nat→Prop) (s':Sg) (S':Rs),Go K P m f nt R k ⟨S'.tm,S'.hp,S.nx+64 * all.size⟩∧Rc I' w' s' a' S'.tm S'.hp nt∧ExtG K m I w s S.hp I' w' s' S'.hp
  have hwp:(Code.region id all dr).wp P Q a w:=by
    cases dr with
    | false =>
      have hrun:=dopsL_run (Q:=Q) (K:=fun S':Rs=>Go K P m f nt R k ⟨S'.tm,S'.hp,S.nx+64 * all.size⟩) all.toList 0 (S:=⟨S.tm,S.hp,fun _=>none⟩) (fun j=>by simp) hR h fun a' w' I' s' S' hK hR' hE=>⟨rfl,I',s',S',hK,hR',hE⟩
      simp only [Array.length_toList,← List.range_eq_range'] at hrun
      exact wp_region hrun
    | true =>
      have hd:=dopsL_dops all.toList 0 ⟨S.tm,S.hp,fun _=>none⟩ (fun j=>by simp) h
      simp only [Array.length_toList,← List.range_eq_range'] at hd
      refine wp_region_any (hm rfl) ?_
      obtain ⟨H1,E1⟩:=hR.H.draw (m:=m)
      have hR1:Rc I { w with drawn:=w.drawn+1 } s a S.tm S.hp nt:=⟨H1,fun n d hn=>E1.rd hR.H (Sg.le_refl _) (hR.tm n d hn),hR.df,hR.sz⟩
      refine draws_run (hD rfl) all.size (List.range all.size) (Array.replicate all.size false) (by simp) List.pairwise_lt_range (fun i hi => by simpa using hi) (by simp) (fun i hi => ?_) (fun i j hi hl => ?_) (fun _ _ => rfl) hR1 hd
        fun a' w' I' s' S' hK hR' hE=>⟨rfl,I',s',S',hK,hR',(E1.trans hE).toG hR.H⟩
      · simp [hi]
      · simp [hi] at hl
  obtain ⟨e,a',w',⟨rfl,I',s',S',hK,hR',hE⟩,harr⟩:=hwp (bf f) k cs
  obtain ⟨v,w'',fr,I'',s'',d,h',g1,g2,g3,g4,g5,g6,g7⟩:=hK I' w' s' a' hR' cs
  exact ⟨v,w'',fr,I'',s'',d,h',g1,g2,g3,ExtG.trans hR.H hE g4,g5,Steps.trans harr g6,g7⟩
def resF (tmps : Array Value) : ResultVar → Sem Value
  | .tmp t=>pure (tmps.getD t undef)
  | .cell a t=>do loadVar t (← asAddr (tmps.getD a undef))
theorem results_eq (fn:Func) (tmps:Array Value):results fn tmps=(fn.results.mapM (resF tmps) >>= fun vs=>pure (if h:vs.size=1 then vs[0] else .tuple vs)):=by
  have:(fun | .tmp t=>pure (tmps.getD t undef) | .cell a t=>do loadVar t (← asAddr (tmps.getD a undef)):ResultVar→Sem Value)=resF tmps:=by
    funext x;cases x<;>rfl
  rw [← this]
  rfl
def retD (P : Program) (tm : Nat → Option D) (hp : Hp) : List ResultVar → Option (Prop × List D)
  | []=>some (True,[])
  | .tmp t :: r=>(match tm t,retD P tm hp r with | some d,some (vc,ds)=>some (peelB d=true∧vc,peelD d :: ds) | _,_=>none)
  | .cell a t :: r=>(match tm a,tagg P t,tsz P t,retD P tm hp r with
    | some (.c (.ptr k off)),some g,some n,some (vc,ds)=>(match hp k with
      | some (some cs)=>(match grab cs off n g with | some (vc',d)=>some (vc'∧vc,d :: ds) | none=>none)
      | _=>none)
    | _,_,_,_=>none)
def oneD : List D → D
  | [d]=>d
  | ds => .tup ds
def RetOb (m:Nat) (R:D→List (Option (List C))→Prop) (d:D) (hp:Hp):Prop :=
  ∀ I w s v,SimH I w s hp→RD I w s v d→∃ I' s' d' h',R d' h'∧RD I' w s' v d'∧SimH I' w s' (hpL h')∧Ext m I w s hp I' w s' (hpL h')∧m≤h'.length
theorem retD_run {I:Nat→Prop} {w:World} {s:Sg} {a:Act} {tm:Nat→Option D} {hp:Hp} (hR:Rc I w s a tm hp nt):∀ (l:List ResultVar) (vc:Prop) (ds:List D),retD P tm hp l=some (vc,ds)→vc →
    ∃ vs:List Value,(l.mapM (resF a.tmps)).run P w = .ok vs w∧RDs I w s vs.toArray ds
  | [],vc,ds,h,hvc=>by
    simp only [retD,Option.some.injEq,Prod.mk.injEq] at h
    obtain ⟨rfl,rfl⟩:=h
    exact ⟨[],rfl,rfl,fun j h=>by simp at h⟩
  | .tmp t :: r,vc,ds,h,hvc=>by
    simp only [retD] at h
    split at h
    · rename_i d vc' ds' hd hr
      simp only [Option.some.injEq,Prod.mk.injEq] at h
      obtain ⟨rfl,rfl⟩:=h
      obtain ⟨vs,h1,h2⟩:=retD_run hR r vc' ds' hr hvc.2
      have h0:=peel_sound (hR.tm t d hd) hvc.1
      refine ⟨a.tmps.getD t undef :: vs,?_,by have:=h2.1;simp at this ⊢;exact this,fun j g1 g2=>?_⟩
      · rw [List.mapM_cons,run_bind (x:=a.tmps.getD t undef) (w':=w) _ _ _ (by rfl),run_bind _ _ _ _ _ h1]
        rfl
      · cases j with
        | zero=>exact h0
        | succ j =>
          have h3:=h2.2 j (by simpa using g1) (by simpa using g2)
          rw [List.getElem_toArray] at h3
          rw [List.getElem_toArray]
          exact h3
    · cases h
  | .cell x t :: r,vc,ds,h,hvc=>by
    simp only [retD] at h
    split at h
    · rename_i k off g n vc' ds' hx hg hn hr
      split at h
      · rename_i cs hcs
        split at h
        · rename_i vc0 d hgr
          simp only [Option.some.injEq,Prod.mk.injEq] at h
          obtain ⟨rfl,rfl⟩:=h
          obtain ⟨vs,h1,h2⟩:=retD_run hR r vc' ds' hr hvc.2
          obtain ⟨b,hs,hxv⟩:=rd_ptr (hR.tm x _ hx)
          obtain ⟨arr,T,hb,hl,hrr⟩:=live_cells hR.H hcs hs
          obtain ⟨v,hv1,hv2⟩:=grab_sound (P:=P) hg hn (b:=b) (o:=0) hgr hvc.1 (fun j hj=>by
            obtain ⟨y,hy,hry⟩:=hrr j hj
            exact ⟨y,by simpa [World.cell?,hb] using hy,hry⟩)
          simp only [Nat.zero_add,Instr.loadAt,Instr.sureAddr] at hv1
          rw [run_bind (x:=(⟨b,off,none⟩:Addr)) (w':=w) _ _ _ (by rfl)] at hv1
          refine ⟨v :: vs,?_,by have:=h2.1;simp at this ⊢;exact this,fun j g1 g2=>?_⟩
          · rw [List.mapM_cons]
            rw [run_bind (x:=v) (w':=w)]
            · rw [run_bind _ _ _ _ _ h1];rfl
            · simp only [resF,hxv]
              rw [run_bind (x:=(⟨b,off,none⟩:Addr)) (w':=w) _ _ _ (by rfl)]
              exact hv1
          · cases j with
            | zero=>exact hv2
            | succ j =>
              have h3:=h2.2 j (by simpa using g1) (by simpa using g2)
              rw [List.getElem_toArray] at h3
              rw [List.getElem_toArray]
              exact h3
        · cases h
      · cases h
    · cases h
theorem Go.ret_core {fn : Func} (hf : P.funcs[f]? = some fn) {S : Ms} {vc : Prop} {ds : List D} (hr : retD P S.tm S.hp fn.results.toList = some (vc, ds)) (hvc : vc) (hob : RetOb m R (oneD ds) S.hp) {k : List Item}
    (hst:∀ (a:Act) (w:World) (cs:List Frame),step P (lone ((bf f).at a k) cs w) = .next (lone { (bf f).at a k with mode := .returning } cs w)):Go K P m f nt R k S:=fun I w s a hR cs=>by
  obtain ⟨vs,hv,hvr⟩:=retD_run (P:=P) hR fn.results.toList vc ds hr hvc
  have hl:vs.length=ds.length:=by simpa using hvr.1
  have hres:∃ v,(results fn a.tmps).run P w = .ok v w∧RD I w s v (oneD ds):=by
    have hm:=run_mapM_arr (P:=P) (resF a.tmps) fn.results w w vs hv
    rw [results_eq,run_bind _ _ _ _ _ hm]
    by_cases h1:vs.length=1
    · match vs,ds,hl,h1,hvr with
      | [v],[d],_,_,hvr =>
        refine ⟨v,by simp [run_pure],?_⟩
        have:=hvr.2 0 (by simp) (by simp)
        simpa [oneD] using this
    · refine ⟨.tuple vs.toArray,by simp [h1,run_pure],?_⟩
      have:oneD ds = .tup ds:=by
        match ds,hl with
        | [],_=>rfl
        | [d],hl=>exact absurd hl h1
        | d :: d' :: r,_=>rfl
      rw [this]
      exact .tup _ _ hvr.1 hvr.2
  obtain ⟨v,hrun,hrd⟩:=hres
  obtain ⟨I',s',d',h',g1,g2,g3,g4,g5⟩:=hob I w s v hR.H hrd
  refine ⟨v,w,{ (bf f).at a k with mode := .returning },I',s',d',h',g1,g2,g3,g4.toG hR.H,g5,.one (hst a w cs),rfl,rfl,hR.df,rfl,fn,hf,hrun⟩
theorem Go.ret {fn:Func} (hf:P.funcs[f]? = some fn) {S:Ms} {vc:Prop} {ds:List D} (hr:retD P S.tm S.hp fn.results.toList=some (vc,ds)) (hvc:vc) (hob:RetOb m R (oneD ds) S.hp) {k:List Item}:Go K P m f nt R (.code .ret :: k) S :=
  .ret_core hf hr hvc hob fun _ _ _=>step_ret
theorem Go.done {fn:Func} (hf:P.funcs[f]? = some fn) {S:Ms} {vc:Prop} {ds:List D} (hr:retD P S.tm S.hp fn.results.toList=some (vc,ds)) (hvc:vc) (hob:RetOb m R (oneD ds) S.hp):Go K P m f nt R [] S :=
  .ret_core hf hr hvc hob fun _ _ _=>step_end
def ofArgs : Nat → List D → Nat → Option D
  | _,[]=>fun _=>none
  | i,d :: r=>upd (ofArgs (i+1) r) i (some d)
theorem ofArgs_get : ∀ (l : List D) (i n : Nat), ofArgs i l n = if i ≤ n then l[n - i]? else none
  | [],i,n=>by simp [ofArgs]
  | d :: r,i,n=>by
    simp only [ofArgs,upd]
    rw [ofArgs_get r (i+1) n]
    by_cases h:n=i
    · subst h;simp
    · rw [if_neg h]
      by_cases h2:i+1≤n
      · rw [if_pos h2,if_pos (by omega),show n - i=(n - (i+1))+1 from by omega,List.getElem?_cons_succ]
      · rw [if_neg h2,if_neg (by omega)]
theorem dc_of_go {fn : Func} {c : Code} (hf : P.funcs[f]? = some fn) (hb : fn.body = some c) {args : List D} {h : List (Option (List C))} (hn : args.length ≤ fn.ntmps)
    (hg:Go false P h.length f fn.ntmps R [.code c] ⟨ofArgs 0 args,hpL h,h.length⟩):DC P f args h R:=fun I w s vs H hvs=>by
  intro cs
  have henter:Frame.enter P f vs .normal=(bf f).at { tmps:=vs++Array.replicate (fn.ntmps - vs.size) undef,defers:=[] } [.code c]:=by
    simp [Frame.enter,Frame.at,hf,hb,bf]
  have hsz:vs.size=args.length:=hvs.1
  have hR:Rc I w s { tmps:=vs++Array.replicate (fn.ntmps - vs.size) undef,defers:=[] } (ofArgs 0 args) (hpL h) fn.ntmps:=by
    refine ⟨H,fun n d hd=>?_,rfl,by simp;omega⟩
    rw [ofArgs_get,if_pos (Nat.zero_le _),Nat.sub_zero] at hd
    obtain ⟨hlt,e⟩:=List.getElem?_eq_some_iff.1 hd
    have:(vs++Array.replicate (fn.ntmps - vs.size) undef).getD n undef=vs[n]'(by omega):=by
      rw [Array.getD_eq_getD_getElem?,Array.getElem?_append_left (by omega)]
      simp [show n<vs.size from by omega]
    simp only [this]
    rw [← e]
    exact hvs.2 n (by omega) hlt
  obtain ⟨v,w',fr,I',s',d,h',g1,g2,g3,g4,g5,g6,g7,g8⟩:=hg I w s _ hR cs
  rw [← henter] at g6
  have g4':Ext h.length I w s (hpL h) I' w' s' (hpL h'):=by
    unfold ExtG at g4
    rw [if_neg (fun e=>Bool.noConfusion e)] at g4
    exact g4
  exact ⟨.returned v,w',fr,⟨v,I',s',d,h',rfl,g1,g2,g3,g4',g5⟩,g6,g7,g8⟩
theorem Go.rounds {X : Type} {c : Code} {k : List Item} (In : X → Ms → Prop) (μ : X → Nat)
    (round:∀ x S,In x S→(∀ x' S',μ x' < μ x→In x' S'→Go K P m f nt R (.inLoop c :: k) S')→Go K P m f nt R (.code c :: .inLoop c :: k) S):∀ x S,In x S→Go K P m f nt R (.inLoop c :: k) S:=by
  have key:∀ n x S,μ x=n→In x S→Go K P m f nt R (.inLoop c :: k) S:=by
    intro n
    induction n using Nat.strongRecOn with
    | _ n ih =>
      intro x S hn hI
      exact .inLoop (round x S hI fun x' S' hlt hI'=>ih (μ x') (hn ▸ hlt) x' S' rfl hI')
  exact fun x S hI=>key _ x S rfl hI
end
end Go.CT
