/- A region, whole: in the order of the text, or in whatever order is drawn. -/
import Derived.Test.YtknihhjejbljgaaCtQ
set_option linter.unusedVariables false
set_option linter.unusedSimpArgs false
namespace Go.CT

/-- An operation's own bits. -/
theorem fold_bits (acc : Array Nat) (j : Nat) : ∀ (l : List Edge) (s : Nat), (l.foldl (fun s e => if Region.binds .any e then s ||| 2 ^ e.on ||| acc.getD e.on 0 else s) s).testBit j = true →
    s.testBit j = true ∨ ∃ e ∈ l, Region.binds .any e = true ∧ (e.on = j ∨ (acc.getD e.on 0).testBit j = true)
  | [], s, h => .inl h
  | e :: r, s, h => by
    simp only [List.foldl_cons] at h
    rcases fold_bits acc j r _ h with h1 | ⟨e', he', hb, h2⟩
    · by_cases hb : Region.binds .any e = true
      · rw [if_pos hb] at h1
        simp only [Nat.testBit_or, Bool.or_eq_true] at h1
        rcases h1 with (h1 | h1) | h1
        · exact .inl h1
        · rw [Nat.testBit_two_pow] at h1
          exact .inr ⟨e, by simp, hb, .inl (of_decide_eq_true h1)⟩
        · exact .inr ⟨e, by simp, hb, .inr h1⟩
      · rw [if_neg hb] at h1
        exact .inl h1
    · exact .inr ⟨e', by simp [he'], hb, h2⟩

theorem before_aux (j : Nat) : ∀ (l : List Oper) (acc : Array Nat), ∃ R : Array Nat,
    l.foldl (fun acc o => acc.push (o.after.foldl (fun s e => if Region.binds .any e then s ||| 2 ^ e.on ||| acc.getD e.on 0 else s) 0)) acc = R ∧ (∀ k, k < acc.size → R[k]? = acc[k]?) ∧
      ∀ k o, l[k]? = some o → (R.getD (acc.size + k) 0).testBit j = true → ∃ e ∈ o.after, Region.binds .any e = true ∧ (e.on = j ∨ (R.getD e.on 0).testBit j = true)
  | [], acc => ⟨acc, rfl, fun _ _ => rfl, fun k o h => by simp at h⟩
  | o :: r, acc => by
    obtain ⟨R, hR, h1, h2⟩ := before_aux j r (acc.push (o.after.foldl (fun s e => if Region.binds .any e then s ||| 2 ^ e.on ||| acc.getD e.on 0 else s) 0))
    refine ⟨R, hR, fun k hk => ?_, fun k o' hk hb => ?_⟩
    · rw [h1 k (by simp; omega), Array.getElem?_push, if_neg (by omega)]
    · cases k with
      | succ k => exact h2 k o' (by simpa using hk) (by rw [Array.size_push, show acc.size + 1 + k = acc.size + (k + 1) from by omega]; exact hb)
      | zero =>
        simp only [List.getElem?_cons_zero, Option.some.injEq] at hk
        subst hk
        have e1 : R.getD (acc.size + 0) 0 = o.after.foldl (fun s e => if Region.binds .any e then s ||| 2 ^ e.on ||| acc.getD e.on 0 else s) 0 := by
          rw [Array.getD_eq_getD_getElem?, h1 _ (by simp)]
          simp
        rw [e1, ← Array.foldl_toList] at hb
        rcases fold_bits acc j o.after.toList 0 hb with h3 | ⟨e, he, hbe, h3⟩
        · simp at h3
        · refine ⟨e, by simpa using he, hbe, h3.imp id fun h4 => ?_⟩
          have hlt : e.on < acc.size := by
            rcases Nat.lt_or_ge e.on acc.size with h5 | h5
            · exact h5
            · simp [Array.getD_eq_getD_getElem?, Array.getElem?_eq_none h5] at h4
          have : R.getD e.on 0 = acc.getD e.on 0 := by
            rw [Array.getD_eq_getD_getElem?, Array.getD_eq_getD_getElem?, h1 _ (by simp; omega), Array.getElem?_push, if_neg (by omega)]
          rw [this]; exact h4

theorem ord_edge {all : Array Oper} {i j : Nat} {o : Oper} (ho : all[i]? = some o) (h : ord all j i = true) : ∃ e ∈ o.after, Region.binds .any e = true ∧ (e.on = j ∨ ord all j e.on = true) := by
  obtain ⟨R, hR, _, h2⟩ := before_aux j all.toList #[]
  have e1 : Region.before all = R := by
    rw [← hR]
    simp only [Region.before]
    rw [← Array.foldl_toList]
  simp only [ord, e1] at h ⊢
  have := h2 i o (by simpa using ho) (by simpa using h)
  exact this

section
variable {P : Program} {m nx nt : Nat} {all : Array Oper}

theorem dop_mono2 {dr : Bool} {i : Nat} {o : Oper} {K K' : Rs → Prop} {S : Rs} (h : ∀ S' p, S'.lg = upd S.lg i (some p) → K S' → K' S') (hd : dop P m nx nt all dr i o K S) : dop P m nx nt all dr i o K' S :=
  let ⟨rd, wr, T, h1, h2, h3, h4⟩ := hd
  ⟨rd, wr, T, h1, h2, h3, fun d up ht => h _ _ rfl (h4 d up ht)⟩

theorem drawOK_pair (h : drawOK all = true) {i j : Nat} (hij : j < i) {x y : Oper} (hx : all[i]? = some x) (hy : all[j]? = some y) (ho : ord all j i = false) : ord all i j = false ∧ x.apart all y = true ∧ (isFn x && isFn y) = false := by
  simp only [drawOK, Bool.and_eq_true, List.all_eq_true, List.mem_range] at h
  have hi := (Array.getElem?_eq_some_iff.1 hx).1
  have hj := (Array.getElem?_eq_some_iff.1 hy).1
  have := h.2 i hi j hj
  have h3 : ord all i j = false ∧ x.apart all y = true ∧ (isFn x = false ∨ isFn y = false) := by
    simpa [hx, hy, ho, show ¬ i ≤ j from by omega] using this
  exact ⟨h3.1, h3.2.1, by rcases h3.2.2 with h | h <;> simp [h]⟩

theorem drawOK_edge (h : drawOK all = true) {i : Nat} {x : Oper} (hx : all[i]? = some x) {e : Edge} (he : e ∈ x.after) (hb : Region.binds .any e = true) : e.on < i := by
  simp only [drawOK, Bool.and_eq_true, List.all_eq_true, List.mem_range] at h
  have hi := (Array.getElem?_eq_some_iff.1 hx).1
  have := h.1.2 i hi
  simp only [hx, Array.all_eq_true_iff_forall_mem, Bool.or_eq_true, Bool.not_eq_true', decide_eq_true_eq] at this
  rcases this e he with h1 | h1
  · rw [hb] at h1; cases h1
  · exact h1

theorem apart_symm {x y : Oper} (h : x.apart all y = true) : y.apart all x = true := by
  obtain ⟨a1, a2, a3⟩ := Oper.apart_spec h
  simp only [Oper.apart, Bool.and_eq_true]
  constructor
  · cases hd : y.dst with
    | none => rfl
    | some d =>
      have := a3 d hd
      have h3 : x.dst ≠ some d := fun e => a2 d e hd
      simp [this, h3]
  · cases hd : x.dst with
    | none => rfl
    | some d => simp [a1 d hd]

/-- Whatever may come first, comes first. -/
theorem dops_front (hD : drawOK all = true) {i : Nat} {o : Oper} (ho : all[i]? = some o) {K : Rs → Prop} : ∀ (pre post : List Nat) {S : Rs}, (∀ j ∈ pre, j < i) → (∀ j ∈ pre, ord all j i = false) → S.lg i = none → (∀ j ∈ pre, S.lg j = none) → pre.Nodup →
    dops P m nx nt all true K (pre ++ i :: post) S → dop P m nx nt all true i o (dops P m nx nt all true K (pre ++ post)) S
  | [], post, S, _, _, _, _, _, h => by simpa only [List.nil_append, dops, ho] using h
  | j :: pre, post, S, hlt, hno, hli, hlj, hnd, h => by
    simp only [List.cons_append, dops] at h
    cases hj : all[j]? with
    | none => simp only [hj] at h
    | some oj =>
      simp only [hj] at h
      have hji := hlt j (by simp)
      obtain ⟨h1, h2, h3⟩ := drawOK_pair hD hji ho hj (hno j (by simp))
      have hnd' := List.nodup_cons.1 hnd
      have h4 : dop P m nx nt all true j oj (dop P m nx nt all true i o (dops P m nx nt all true K (pre ++ post))) S := by
        refine dop_mono2 (fun S' p hl hK => ?_) h
        refine dops_front hD ho pre post (fun k hk => hlt k (by simp [hk])) (fun k hk => hno k (by simp [hk])) ?_ (fun k hk => ?_) hnd'.2 hK
        · rw [hl, upd_ne _ _ (by omega)]; exact hli
        · rw [hl, upd_ne _ _ (fun e : k = j => hnd'.1 (by rw [← e]; exact hk))]; exact hlj k (by simp [hk])
      have hi' := (Array.getElem?_eq_some_iff.1 ho).1
      have hj' := (Array.getElem?_eq_some_iff.1 hj).1
      have h5 := dop_swap hj' hi' (by omega) (apart_symm h2) (by rw [Bool.and_comm]; exact h3) (hno j (by simp)) h1 (hlj j (by simp)) hli h4
      refine dop_mono (fun S' hS => ?_) h5
      simp only [List.cons_append, dops, hj]
      exact hS

/-- EVERY ORDER: a region that goes through in the order of the text goes through in every order. -/
theorem draws_run (hD : drawOK all = true) {K : Rs → Prop} {Q : Exit → Act → World → Prop} : ∀ (n : Nat) (T : List Nat) (listed : Array Bool) {I : Nat → Prop} {w : World} {s : Sg} {a : Act} {S : Rs}, T.length = n → T.Pairwise (· < ·) → (∀ i ∈ T, i < all.size) → listed.size = all.size →
    (∀ i, i < all.size → (listed.getD i true = false ↔ i ∈ T)) → (∀ i j, i < all.size → listed.getD i true = true → ord all j i = true → listed.getD j true = true) → (∀ i ∈ T, S.lg i = none) → Rc I w s a S.tm S.hp nt → dops P m nx nt all true K T S →
    (∀ a' w' I' s' S', K S' → Rc I' w' s' a' S'.tm S'.hp nt → Ext m I w s S.hp I' w' s' S'.hp → Q .normal a' w') → wpAny P .any all Q n listed a w := by
  intro n
  induction n with
  | zero =>
    intro T listed I w s a S hT hP hlt hsz hl hdc hlg hR h hQ
    have : T = [] := List.eq_nil_of_length_eq_zero hT
    subst this
    refine ⟨List.eq_nil_iff_forall_not_mem.2 fun i hi => ?_, hQ a w I s S h hR (Ext.refl _ _ _ _ _)⟩
    obtain ⟨h0, o, ho, _⟩ := mem_ready.1 hi
    have := (hl i (Array.getElem?_eq_some_iff.1 ho).1).1 h0
    simp at this
  | succ n ih =>
    intro T listed I w s a S hT hP hlt hsz hl hdc hlg hR h hQ
    refine ⟨fun hr => ?_, fun i hi => ?_⟩
    · -- something can always be done
      exfalso
      cases hT' : T with
      | nil => rw [hT'] at hT; simp at hT
      | cons i r =>
        have hiT : i ∈ T := by rw [hT']; simp
        have hi := hlt i hiT
        have hmem : i ∈ Region.ready .any all listed := by
          refine mem_ready.2 ⟨(hl i hi).2 hiT, all[i], by simp [hi], fun e he hb => ?_⟩
          have hlt' := drawOK_edge hD (Array.getElem?_eq_getElem hi) he hb
          cases hb' : listed.getD e.on true with
          | true =>
            have hs : e.on < listed.size := by omega
            simpa [Array.getD_eq_getD_getElem?, hs] using hb'
          | false =>
            have hm := (hl e.on (by omega)).1 hb'
            rw [hT'] at hm hP
            rcases List.mem_cons.1 hm with h1 | h1
            · omega
            · have := (List.pairwise_cons.1 hP).1 _ h1
              omega
        rw [hr] at hmem
        simp at hmem
    · obtain ⟨h0, o, ho, hall⟩ := mem_ready.1 hi
      have hilt := (Array.getElem?_eq_some_iff.1 ho).1
      have hiT := (hl i hilt).1 h0
      obtain ⟨pre, post, rfl⟩ := List.append_of_mem hiT
      have hlisted : ∀ k, listed.getD k false = true → k < all.size ∧ listed.getD k true = true := fun k hk => by
        have : k < listed.size := by
          rcases Nat.lt_or_ge k listed.size with h' | h'
          · exact h'
          · simp [Array.getD_eq_getD_getElem?, Array.getElem?_eq_none h'] at hk
        refine ⟨by omega, ?_⟩
        simpa [Array.getD_eq_getD_getElem?, this] using hk
      have hnoord : ∀ j, j ∈ pre ++ i :: post → ord all j i = false := fun j hj => by
        cases hb : ord all j i with
        | false => rfl
        | true =>
          exfalso
          obtain ⟨e, he, hbe, hor⟩ := ord_edge ho hb
          obtain ⟨h1, h2⟩ := hlisted e.on (hall e he hbe)
          have hjl : listed.getD j true = true := by
            rcases hor with rfl | hor
            · exact h2
            · exact hdc e.on j h1 h2 hor
          have := (hl j (hlt j hj)).2 hj
          rw [hjl] at this; cases this
      have hpre : ∀ j ∈ pre, j < i := fun j hj => (List.pairwise_append.1 hP).2.2 j hj i (by simp)
      have hP2 : (pre ++ post).Pairwise (· < ·) := by
        refine hP.sublist ?_
        exact List.Sublist.append (List.Sublist.refl _) (List.sublist_cons_self _ _)
      have hndp : pre.Nodup := ((List.pairwise_append.1 hP).1).imp (fun h => by omega)
      have hinot : i ∉ pre ++ post := fun hm => by
        rcases List.mem_append.1 hm with hm | hm
        · have := hpre i hm; omega
        · have := (List.pairwise_cons.1 (List.pairwise_append.1 hP).2.1).1 i hm; omega
      have hfr := dops_front hD ho pre post hpre (fun j hj => hnoord j (by simp [hj])) (hlg i (by simp)) (fun j hj => hlg j (by simp [hj])) hndp h
      refine dop_run ho hR hfr fun a' w' I' s' S' hK hlg' hR' hE => ?_
      obtain ⟨p, hp⟩ := hlg'
      have hget : ∀ k d, k < all.size → (listed.setIfInBounds i true).getD k d = if k = i then true else listed.getD k d := fun k d hk => by
        by_cases e : k = i
        · subst e
          simp [Array.getD_eq_getD_getElem?, hsz, hk]
        · rw [if_neg e]
          exact getD_set_ne d (fun e' => e e'.symm)
      refine ih (pre ++ post) (listed.setIfInBounds i true) (by simp at hT ⊢; omega) hP2 (fun k hk => hlt k (by rcases List.mem_append.1 hk with h | h <;> simp [h])) (by simpa using hsz) (fun k hk => ?_) (fun k j hk hkl hkj => ?_) (fun k hk => ?_) hR' hK
        (fun a'' w'' I'' s'' S'' hK' hR'' hE' => hQ a'' w'' I'' s'' S'' hK' hR'' (hE.trans hE'))
      · rw [hget k true hk]
        by_cases e : k = i
        · subst e
          simp only [if_true]
          exact ⟨fun h => (by cases h), fun h => absurd h hinot⟩
        · rw [if_neg e, hl k hk]
          simp only [List.mem_append, List.mem_cons]
          constructor
          · rintro (h | h | h)
            · exact .inl h
            · exact absurd h e
            · exact .inr h
          · rintro (h | h)
            · exact .inl h
            · exact .inr (.inr h)
      · rw [hget k true hk] at hkl
        by_cases hjs : j < all.size
        · rw [hget j true hjs]
          by_cases ej : j = i
          · rw [if_pos ej]
          · rw [if_neg ej]
            by_cases e : k = i
            · subst e
              cases hb : listed.getD j true with
              | true => rfl
              | false =>
                have := hnoord j ((hl j hjs).1 hb)
                rw [hkj] at this; cases this
            · rw [if_neg e] at hkl
              exact hdc k j hk hkl hkj
        · rw [Array.getD_eq_getD_getElem?, Array.getElem?_eq_none (by simp [hsz]; omega)]; rfl
      · rw [hp, upd_ne _ _ (fun e : k = i => hinot (by rw [← e]; exact hk))]
        exact hlg k (by rcases List.mem_append.1 hk with h | h <;> simp [h])

end
end Go.CT
