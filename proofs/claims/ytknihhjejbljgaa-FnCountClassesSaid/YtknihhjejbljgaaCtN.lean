/- A call by contract, in the caller's keys. -/
import Derived.Test.YtknihhjejbljgaaCtM
set_option linter.unusedVariables false
set_option linter.unusedSimpArgs false
namespace Go.CT

/-- The names under which a caller hands its blocks over. -/
def rk0 (ks : List Nat) (b : Nat) (k : Nat) : Nat := if k < ks.length then ks.getD k 0 else b

theorem call_sound {P : Program} {m : Nat} {I : Nat → Prop} {w : World} {s : Sg} {hp : Hp} (H : SimH I w s hp) {F : FuncId} {args : List D} {h : List (Option (List C))} {R : D → List (Option (List C)) → Prop} (hD : DC P F args h R)
    (ks : List Nat) (b : Nat) (hks : ks.length = h.length) (hnd : ks.Nodup) (hhp : ∀ i x, h[i]? = some x → hp (ks.getD i 0) = some (x.map (renCs (rk0 ks b)))) (hm : m ≤ b) (hb : ∀ j, j < 64 → hp (b + j) = none)
    (hlen : ∀ d h', R d h' → h'.length ≤ h.length + 64) {vs : Array Value} (hvs : RDs I w s vs (args.map (renD (rk0 ks b)))) :
    Calls P F vs w fun e w' => ∃ v I' s' d h', e = .returned v ∧ R d h' ∧ h.length ≤ h'.length ∧ s.le s' ∧ SimH I' w' s' (appUp hp (upsFrom (rkey ks b) 0 h')) ∧
      Ext m I w s hp I' w' s' (appUp hp (upsFrom (rkey ks b) 0 h')) ∧ RD I' w' s' v (renD (rkey ks b) d) := by
  have hb0 : hp b = none := by simpa using hb 0 (by omega)
  have hsb : s b = none := H.top b hb0
  have hrk0 : ∀ k, k < h.length → rk0 ks b k = ks.getD k 0 := fun k hk => by simp only [rk0]; rw [if_pos (by omega)]
  have hrk0' : ∀ k, h.length ≤ k → rk0 ks b k = b := fun k hk => by simp only [rk0]; rw [if_neg (by omega)]
  let sc : Sg := fun k => if k < h.length then s (ks.getD k 0) else none
  have hsc : ∀ k, k < h.length → sc k = s (ks.getD k 0) := fun k hk => if_pos hk
  have hsc' : ∀ k, h.length ≤ k → sc k = none := fun k hk => if_neg (by omega)
  have hunren : ∀ k y, s (rk0 ks b k) = some y → sc k = some y := fun k y hy => by
    by_cases hk : k < h.length
    · rw [hsc k hk, ← hrk0 k hk]; exact hy
    · rw [hrk0' k (by omega), hsb] at hy; cases hy
  have hinjks : ∀ i j, i < h.length → j < h.length → ks.getD i 0 = ks.getD j 0 → i = j := fun i j hi hj e => by
    have hi' : i < ks.length := by omega
    have hj' : j < ks.length := by omega
    simp only [List.getD_eq_getElem?_getD, List.getElem?_eq_getElem hi', List.getElem?_eq_getElem hj', Option.getD_some] at e
    have hp := List.pairwise_iff_getElem.1 hnd
    rcases Nat.lt_trichotomy i j with h1 | h1 | h1
    · exact absurd e (hp i j hi' hj' h1)
    · exact h1
    · exact absurd e.symm (hp j i hj' hi' h1)
  have hhl : ∀ i, i < h.length → hp (ks.getD i 0) ≠ none := fun i hi => by
    rw [hhp i h[i] (by simp [hi])]; simp
  have Hc : SimH I w sc (hpL h) := by
    refine ⟨fun k hk => ?_, fun k cs hk => ?_, fun k k' b0 cs cs' h1 h2 h3 h4 => ?_, H.imm⟩
    · refine hsc' k ?_
      simp only [hpL] at hk
      exact List.getElem?_eq_none_iff.1 hk
    · simp only [hpL] at hk
      have hlt := (List.getElem?_eq_some_iff.1 hk).1
      have h1 := hhp k _ hk
      simp only [Option.map_some] at h1
      rw [hsc k hlt]
      rcases H.blk _ _ h1 with ⟨h2, h3⟩ | ⟨b0, arr, T, h2, h3, h4, h5, h6⟩
      · exact .inl ⟨h2, by rw [renCs_eq] at h3; simpa using h3⟩
      · refine .inr ⟨b0, arr, T, h2, h3, by rw [renCs_eq] at h4; simpa using h4, h5, fun j hj => ?_⟩
        obtain ⟨y, hy, hry⟩ := h6 j (by rw [renCs_eq]; simpa using hj)
        exact ⟨y, hy, RC.unren hunren _ (by simpa [renCs_eq] using hry)⟩
    · simp only [hpL] at h1 h2
      have hlt := (List.getElem?_eq_some_iff.1 h1).1
      have hlt' := (List.getElem?_eq_some_iff.1 h2).1
      rw [hsc k hlt] at h3
      rw [hsc k' hlt'] at h4
      exact hinjks k k' hlt hlt' (H.inj _ _ b0 _ _ (by simpa using hhp k _ h1) (by simpa using hhp k' _ h2) h3 h4)
  have hlivec : ∀ b0, Live sc (hpL h) b0 → ∃ i, i < h.length ∧ ∃ cs, hp (ks.getD i 0) = some (some cs) ∧ s (ks.getD i 0) = some (some b0) := by
    rintro b0 ⟨i, cs, hi, hs⟩
    simp only [hpL] at hi
    have hlt := (List.getElem?_eq_some_iff.1 hi).1
    rw [hsc i hlt] at hs
    exact ⟨i, hlt, _, by simpa using hhp i _ hi, hs⟩
  refine (hD I w sc vs Hc (hvs.unren hunren)).mono ?_
  rintro e w' ⟨v, I', s', d, h', rfl, hR, hrd, H', E', hlen'⟩
  have hl64 := hlen d h' hR
  have hkeyeq : ∀ k, k < h.length → s' k = s (ks.getD k 0) := fun k hk => (E'.key k hk).trans (hsc k hk)
  -- the names behind the call
  let r := rkey ks b
  have hr1 : ∀ k, k < h.length → r k = ks.getD k 0 := fun k hk => by simp only [r, rkey]; rw [if_pos (by omega)]
  have hr2 : ∀ k, h.length ≤ k → r k = b + (k - h.length) := fun k hk => by simp only [r, rkey]; rw [if_neg (by omega), hks]
  let sn : Sg := fun k => if b ≤ k ∧ k < b + 64 then s' (h.length + (k - b)) else s k
  have hsn1 : ∀ k, (b ≤ k ∧ k < b + 64) → sn k = s' (h.length + (k - b)) := fun k hk => if_pos hk
  have hsn2 : ∀ k, ¬ (b ≤ k ∧ k < b + 64) → sn k = s k := fun k hk => if_neg hk
  have hwin : ∀ k, hp k ≠ none → ¬ (b ≤ k ∧ k < b + 64) := fun k hk hw => hk (by
    have := hb (k - b) (by omega)
    rwa [show b + (k - b) = k from by omega] at this)
  have hle : s.le sn := fun k x hx => by
    by_cases hw : b ≤ k ∧ k < b + 64
    · have := H.top k (by have := hb (k - b) (by omega); rwa [show b + (k - b) = k from by omega] at this)
      rw [this] at hx; cases hx
    · rw [hsn2 k hw]; exact hx
  have hsnr : ∀ i, i < h'.length → sn (r i) = s' i := fun i hi => by
    by_cases hlt : i < h.length
    · rw [hr1 i hlt, hsn2 _ (hwin _ (hhl i hlt)), hkeyeq i hlt]
    · rw [hr2 i (by omega), hsn1 _ (by omega)]
      congr 1
      omega
  have hren : ∀ k y, s' k = some y → sn (r k) = some y := fun k y hy => by
    by_cases hk : k < h'.length
    · rw [hsnr k hk]; exact hy
    · have := H'.top k (by simp only [hpL]; exact List.getElem?_eq_none_iff.2 (by omega))
      rw [this] at hy; cases hy
  have hrinj : ∀ i j, i < h'.length → j < h'.length → r i = r j → i = j := fun i j hi hj e => by
    by_cases h1 : i < h.length <;> by_cases h2 : j < h.length
    · rw [hr1 i h1, hr1 j h2] at e; exact hinjks i j h1 h2 e
    · rw [hr1 i h1, hr2 j (by omega)] at e
      exact absurd ⟨by omega, by omega⟩ (hwin _ (hhl i h1))
    · rw [hr2 i (by omega), hr1 j h2] at e
      exact absurd ⟨by omega, by omega⟩ (hwin _ (hhl j h2))
    · rw [hr2 i (by omega), hr2 j (by omega)] at e; omega
  obtain ⟨hup1, hup2⟩ := appUp_upsFrom r h' 0 hp (fun a c _ h2 _ h4 e => hrinj a c (by omega) (by omega) e)
  simp only [Nat.zero_add] at hup1 hup2
  let hpn := appUp hp (upsFrom r 0 h')
  have hcase : ∀ k, (∃ i, i < h'.length ∧ k = r i ∧ hpn k = (h'[i]?).map (·.map (renCs r))) ∨ ((∀ i, i < h'.length → k ≠ r i) ∧ hpn k = hp k) := fun k => by
    by_cases hk : ∃ i, i < h'.length ∧ k = r i
    · obtain ⟨i, hi, rfl⟩ := hk
      exact .inl ⟨i, hi, rfl, hup1 i hi⟩
    · have hk' : ∀ i, i < h'.length → k ≠ r i := fun i hi e => hk ⟨i, hi, e⟩
      exact .inr ⟨hk', hup2 k hk'⟩
  have hkeepsc : Keeps I w w' := E'.keeps Hc
  have hother : ∀ k cs b0, hpn k = hp k → (∀ i, i < h'.length → k ≠ r i) → hp k = some (some cs) → s k = some (some b0) → ¬ Live sc (hpL h) b0 := fun k cs b0 _ hne hk hs hl => by
    obtain ⟨i, hi, cs', h1, h2⟩ := hlivec b0 hl
    have := H.inj k _ b0 cs cs' hk h1 hs h2
    exact hne i (by omega) (by rw [hr1 i hi]; exact this)
  have hlive : ∀ b0, Live sn hpn b0 → Live s hp b0 ∨ w.heap.size ≤ b0 := by
    rintro b0 ⟨k, cs, hk, hs⟩
    rcases hcase k with ⟨i, hi, rfl, he⟩ | ⟨hne, he⟩
    · rw [hsnr i hi] at hs
      have hi' : h'[i]? = some h'[i] := by simp [hi]
      rw [he, hi'] at hk
      simp only [Option.map_some, Option.some.injEq] at hk
      cases hx : h'[i] with
      | none => rw [hx] at hk; simp at hk
      | some c0 =>
        rcases E'.live b0 ⟨i, c0, by simp only [hpL]; rw [hi', hx], hs⟩ with h1 | h1
        · obtain ⟨i', _, cs', h2, h3⟩ := hlivec b0 h1
          exact .inl ⟨_, cs', h2, h3⟩
        · exact .inr h1
    · rw [he] at hk
      rw [hsn2 k (hwin k (by rw [hk]; simp))] at hs
      exact .inl ⟨k, cs, hk, hs⟩
  have hext : Ext m I w s hp I' w' sn hpn := by
    refine ⟨E'.os, E'.tape, E'.output, E'.size, fun b0 hb0' hl => E'.same b0 hb0' fun hc => ?_, E'.shp, fun k hk => hsn2 k (by omega), E'.imm, fun b0 hb0' => ?_, hlive⟩
    · obtain ⟨i', _, cs', h2, h3⟩ := hlivec b0 hc
      exact hl ⟨_, cs', h2, h3⟩
    · rcases E'.imm' b0 hb0' with h1 | h1 | h1
      · exact .inl h1
      · obtain ⟨i', _, cs', h2, h3⟩ := hlivec b0 h1
        exact .inr (.inl ⟨_, cs', h2, h3⟩)
      · exact .inr (.inr h1)
  refine ⟨v, I', sn, d, h', rfl, hR, hlen', hle, ⟨fun k hk => ?_, fun k cs hk => ?_, fun k k' b0 cs cs' h1 h2 h3 h4 => ?_, H'.imm⟩, hext, hrd.ren hren⟩
  · rcases hcase k with ⟨i, hi, rfl, he⟩ | ⟨hne, he⟩
    · have hk' : hpn (r i) = none := hk
      rw [he] at hk'
      simp [hi] at hk'
    · have hk' : hpn k = none := hk
      rw [he] at hk'
      by_cases hw : b ≤ k ∧ k < b + 64
      · rw [hsn1 k hw]
        refine H'.top _ ?_
        simp only [hpL]
        refine List.getElem?_eq_none_iff.2 ?_
        refine Nat.le_of_not_lt fun hlt => hne (h.length + (k - b)) hlt ?_
        rw [hr2 _ (by omega)]; omega
      · rw [hsn2 k hw]; exact H.top k hk'
  · have hk' : hpn k = some (some cs) := hk
    rcases hcase k with ⟨i, hi, rfl, he⟩ | ⟨hne, he⟩
    · have hi' : h'[i]? = some h'[i] := by simp [hi]
      rw [he, hi'] at hk'
      simp only [Option.map_some, Option.some.injEq] at hk'
      cases hx : h'[i] with
      | none => rw [hx] at hk'; simp at hk'
      | some c0 =>
        rw [hx] at hk'
        simp only [Option.map_some, Option.some.injEq] at hk'
        subst hk'
        rw [hsnr i hi]
        rcases H'.blk i c0 (by simp only [hpL]; rw [hi', hx]) with ⟨g1, g2⟩ | ⟨b0, arr, T, g1, g2, g3, g4, g5⟩
        · exact .inl ⟨g1, by rw [g2]; rfl⟩
        · refine .inr ⟨b0, arr, T, g1, g2, by rw [renCs_eq]; simpa using g3, g4, fun j hj => ?_⟩
          obtain ⟨y, hy, hry⟩ := g5 j (by rw [renCs_eq] at hj; simpa using hj)
          exact ⟨y, hy, by simpa [renCs_eq] using hry.ren hren⟩
    · rw [he] at hk'
      rw [hsn2 k (hwin k (by rw [hk']; simp))]
      rcases H.blk k cs hk' with h1 | ⟨b0, arr, T, g1, g2, g3, g4, g5⟩
      · exact .inl h1
      · have hnl := hother k cs b0 he hne hk' g1
        have hlt := lt_of_heap g2
        refine .inr ⟨b0, arr, T, g1, by rw [E'.same b0 hlt hnl]; exact g2, g3, fun hI => ?_, fun j hj => ?_⟩
        · rcases E'.imm' b0 hI with q | q | q
          · exact g4 q
          · exact hnl q
          · omega
        · obtain ⟨y, hy, hry⟩ := g5 j hj
          exact ⟨y, hy, hry.mono E'.imm hkeepsc E'.shp hle⟩
  · have h1' : hpn k = some (some cs) := h1
    have h2' : hpn k' = some (some cs') := h2
    have own : ∀ k cs, hpn k = some (some cs) → sn k = some (some b0) → (∃ i c0, i < h'.length ∧ k = r i ∧ h'[i]? = some (some c0) ∧ s' i = some (some b0)) ∨ ((∀ i, i < h'.length → k ≠ r i) ∧ hpn k = hp k ∧ hp k = some (some cs) ∧ s k = some (some b0)) := fun k cs hk hs => by
      rcases hcase k with ⟨i, hi, rfl, he⟩ | ⟨hne, he⟩
      · have hi' : h'[i]? = some h'[i] := by simp [hi]
        rw [he, hi'] at hk
        simp only [Option.map_some, Option.some.injEq] at hk
        cases hx : h'[i] with
        | none => rw [hx] at hk; simp at hk
        | some c0 => exact .inl ⟨i, c0, hi, rfl, by rw [hi', hx], by rw [← hsnr i hi]; exact hs⟩
      · have hk2 := hk
        rw [he] at hk2
        exact .inr ⟨hne, he, hk2, by rw [hsn2 k (hwin k (by rw [hk2]; simp))] at hs; exact hs⟩
    rcases own k cs h1' h3 with ⟨i, c0, hi, rfl, e1, e2⟩ | ⟨hne, he, e1, e2⟩ <;> rcases own k' cs' h2' h4 with ⟨i', c0', hi', rfl, f1, f2⟩ | ⟨hne', he', f1, f2⟩
    · rw [H'.inj i i' b0 c0 c0' e1 f1 e2 f2]
    · rcases E'.live b0 ⟨i, c0, e1, e2⟩ with q | q
      · exact absurd q (hother k' cs' b0 he' hne' f1 f2)
      · have := (H.live_lt ⟨k', cs', f1, f2⟩).1; omega
    · rcases E'.live b0 ⟨i', c0', f1, f2⟩ with q | q
      · exact absurd q (hother k cs b0 he hne e1 e2)
      · have := (H.live_lt ⟨k, cs, e1, e2⟩).1; omega
    · exact H.inj k k' b0 cs cs' e1 f1 e2 f2

end Go.CT
