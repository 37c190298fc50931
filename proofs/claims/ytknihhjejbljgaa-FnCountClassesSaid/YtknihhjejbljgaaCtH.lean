/- Steps that change owned memory: a key renamed, an append. -/
import Derived.Test.YtknihhjejbljgaaCtG
set_option linter.unusedVariables false
set_option linter.unusedSimpArgs false
namespace Go.CT

/-- A block goes on under a fresh key; the old key is spent. -/
theorem sim_rekey {m : Nat} {I : Nat → Prop} {w : World} {s : Sg} {hp : Hp} (H : SimH I w s hp) (k kn : Nat) (cs : List C) (hk : hp k = some (some cs)) (hn : hp kn = none) (hm : m ≤ kn) :
    let s' := upd s kn (s k)
    let hp' := upd (upd hp k (some none)) kn (some (some cs))
    s.le s' ∧ SimH I w s' hp' ∧ Ext m I w s hp I w s' hp' := by
  intro s' hp'
  have hsk : s kn = none := H.top kn hn
  have hkne : k ≠ kn := fun e => by rw [e, hn] at hk; cases hk
  have hle : s.le s' := fun j x hj => by
    have : j ≠ kn := fun e => by rw [e, hsk] at hj; cases hj
    simp [s', upd_ne _ _ this, hj]
  have hlive : ∀ b, Live s' hp' b → Live s hp b := by
    rintro b ⟨j, cs', hj, hs⟩
    by_cases e : j = kn
    · subst e
      simp only [s', upd_same] at hs
      exact ⟨k, cs, hk, hs⟩
    · simp only [s', upd_ne _ _ e] at hs
      simp only [hp', upd_ne _ _ e] at hj
      by_cases e2 : j = k
      · subst e2; simp [upd_same] at hj
      · rw [upd_ne _ _ e2] at hj
        exact ⟨j, cs', hj, hs⟩
  have hext : Ext m I w s hp I w s' hp' :=
    ⟨rfl, rfl, rfl, Nat.le_refl _, fun _ _ _ => rfl, Shp.refl _, fun j hj => upd_ne _ _ (by omega), fun _ h => h, fun _ h => .inl h, fun b h => .inl (hlive b h)⟩
  have old : ∀ i csi, hp' i = some (some csi) → ∃ i', hp i' = some (some csi) ∧ s' i = s i' ∧ (i = kn ∧ i' = k ∨ i ≠ kn ∧ i ≠ k ∧ i' = i) := by
    intro i csi hi
    by_cases e : i = kn
    · subst e
      simp only [hp', upd_same, Option.some.injEq] at hi
      subst hi
      exact ⟨k, hk, by simp [s', upd_same], .inl ⟨rfl, rfl⟩⟩
    · simp only [hp', upd_ne _ _ e] at hi
      by_cases e2 : i = k
      · subst e2; simp [upd_same] at hi
      · rw [upd_ne _ _ e2] at hi
        exact ⟨i, hi, by simp [s', upd_ne _ _ e], .inr ⟨e, e2, rfl⟩⟩
  refine ⟨hle, ⟨fun j hj => ?_, fun j csj hj => ?_, fun j j' b cs1 cs2 h1 h2 h3 h4 => ?_, H.imm⟩, hext⟩
  · by_cases e : j = kn
    · subst e; simp [hp', upd_same] at hj
    · simp only [hp', upd_ne _ _ e] at hj
      simp only [s', upd_ne _ _ e]
      by_cases e2 : j = k
      · subst e2; simp [upd_same] at hj
      · rw [upd_ne _ _ e2] at hj; exact H.top j hj
  · obtain ⟨i', hi', hs', _⟩ := old j csj hj
    rw [hs']
    rcases H.blk i' csj hi' with h1 | ⟨b, arr, T, h1, h2, h3, h4, h5⟩
    · exact .inl h1
    · refine .inr ⟨b, arr, T, h1, h2, h3, h4, fun j' h' => ?_⟩
      obtain ⟨y, hy, hr⟩ := h5 j' h'
      exact ⟨y, hy, hext.rc H hle hr⟩
  · obtain ⟨i1, g1, g2, g3⟩ := old j cs1 h1
    obtain ⟨i2, f1, f2, f3⟩ := old j' cs2 h2
    rw [g2] at h3
    rw [f2] at h4
    have := H.inj i1 i2 b cs1 cs2 g1 f1 h3 h4
    omega

/-- Several blocks hold what they held when only one is written: what a list of values reads as survives. -/
theorem RCs.ext {m : Nat} {I I' : Nat → Prop} {w w' : World} {s s' : Sg} {hp hp' : Hp} (h : Ext m I w s hp I' w' s' hp') (H : SimH I w s hp) (hle : s.le s') {arr : Array Value} {cs : List C}
    (hr : RCs I w s arr cs) : RCs I' w' s' arr cs := ⟨hr.1, fun j h1 h2 => h.rc H hle (hr.2 j h1 h2)⟩

section
variable {P : Program}

/-- The cells that a slice (or nil) lends to an append. -/
def lends (hp : Hp) : D → Option (Nat × Nat × List C)
  | .c (.isl sz xs) => some (xs.length, sz, xs.flatten)
  | .c (.msl k sz off len) => (match hp k with | some (some cs) => some (len, sz, (cs.drop off).take (len * sz)) | _ => none)
  | .c (.v (.slice none 0 0)) => some (0, 0, [])
  | .c .z => some (0, 0, [])
  | _ => none

theorem flatten_length (sz : Nat) : ∀ (xs : List (List C)), (∀ x ∈ xs, x.length = sz) → xs.flatten.length = xs.length * sz
  | [], _ => by simp
  | x :: r, h => by
    rw [List.flatten_cons, List.length_append, h x (by simp), flatten_length sz r (fun y hy => h y (by simp [hy])), List.length_cons, Nat.add_mul]; omega

theorem flatten_get (sz : Nat) : ∀ (xs : List (List C)), (∀ x ∈ xs, x.length = sz) → ∀ (j : Nat), j < xs.length * sz → ∃ (i t : Nat) (hi : i < xs.length) (ht : t < xs[i].length), j = i * sz + t ∧ t < sz ∧ xs.flatten[j]? = some (xs[i])[t]
  | [], _, j, hj => by simp at hj
  | x :: r, h, j, hj => by
    have hx : x.length = sz := h x (by simp)
    by_cases hlt : j < sz
    · refine ⟨0, j, by simp, by simpa [hx] using hlt, by omega, hlt, ?_⟩
      rw [List.flatten_cons, List.getElem?_append_left (by omega)]
      simp [hx, hlt]
    · rw [List.length_cons, Nat.add_mul] at hj
      obtain ⟨i, t, hi, ht, e, ht2, hg⟩ := flatten_get sz r (fun y hy => h y (by simp [hy])) (j - sz) (by omega)
      refine ⟨i + 1, t, by simpa using hi, by simpa using ht, by rw [Nat.add_mul]; omega, ht2, ?_⟩
      rw [List.flatten_cons, List.getElem?_append_right (by omega), hx, hg]
      simp

/-- What is lent lies there to be read. -/
theorem lends_sound {I : Nat → Prop} {w : World} {s : Sg} {hp : Hp} (H : SimH I w s hp) {x : Value} {d : D} (h : RD I w s x d) {n sz : Nat} {cs : List C} (hl : lends hp d = some (n, sz, cs)) :
    ∃ a cap, x = .slice a n cap ∧ n ≤ cap ∧ (n = 0 ∧ cs = [] ∨ ∃ (b off : Nat) (ys : List Value), a = some ⟨b, off, none⟩ ∧ (cs.length = n * sz → ys.length = n * sz ∧ (∀ j v, ys[j]? = some v → w.cell? ⟨b, off + j, none⟩ = some v) ∧ RCs I w s ys.toArray cs)) := by
  unfold lends at hl
  split at hl
  · rename_i sz' xs
    simp only [Option.some.injEq, Prod.mk.injEq] at hl
    obtain ⟨rfl, rfl, rfl⟩ := hl
    obtain ⟨a, cap, hx, hcap, hcase⟩ := rd_isl h
    refine ⟨a, cap, hx, hcap.1, ?_⟩
    rcases hcase with hnil | ⟨b, off, y, rfl, hI, hlen, hc, hr⟩
    · subst hnil; exact .inl ⟨rfl, rfl⟩
    · right
      have hall : ∀ x ∈ xs, x.length = sz' := fun x hx => by
        obtain ⟨i, hi, e⟩ := List.mem_iff_getElem.1 hx
        rw [← e]; exact hlen i hi
      have hfl := flatten_length sz' xs hall
      refine ⟨b, off, (List.range (xs.length * sz')).map (fun j => y (j / sz') (j % sz')), rfl, fun _ => ⟨by simp, fun j v hv => ?_, by simp [hfl], fun j h1 h2 => ?_⟩⟩
      · simp only [List.getElem?_map] at hv
        by_cases hj : j < xs.length * sz'
        · rw [List.getElem?_range hj] at hv
          simp only [Option.map_some, Option.some.injEq] at hv
          have hpos : 0 < sz' := by
            rcases Nat.eq_zero_or_pos sz' with h0 | h0
            · subst h0; omega
            · exact h0
          have h1 : j / sz' < xs.length := (Nat.div_lt_iff_lt_mul hpos).2 hj
          have h2 : j % sz' < sz' := Nat.mod_lt _ hpos
          have := hc (j / sz') (j % sz') h1 h2
          rw [hv] at this
          rw [← this]
          congr 2
          have := Nat.div_add_mod j sz'
          rw [Nat.mul_comm] at this
          omega
        · rw [List.getElem?_eq_none (by simp; omega)] at hv; cases hv
      · have hj : j < xs.length * sz' := by simpa using h1
        obtain ⟨i, t, hi, ht, e, ht2, hg⟩ := flatten_get sz' xs hall j hj
        have e2 : xs.flatten[j] = (xs[i])[t] := by
          have : xs.flatten[j]? = some xs.flatten[j] := by simp [h2]
          rw [this] at hg
          exact Option.some.inj hg
        rw [e2]
        have hdiv : j / sz' = i := by
          rw [e, Nat.mul_comm, Nat.mul_add_div (by omega), Nat.div_eq_of_lt ht2, Nat.add_zero]
        have hmod : j % sz' = t := by
          rw [e, Nat.mul_comm, Nat.mul_add_mod, Nat.mod_eq_of_lt ht2]
        simp only [List.getElem_toArray, List.getElem_map, List.getElem_range, hdiv, hmod]
        exact (hr i hi t ht).any s
  · rename_i k sz' off len
    split at hl
    · rename_i csk hk
      simp only [Option.some.injEq, Prod.mk.injEq] at hl
      obtain ⟨rfl, rfl, rfl⟩ := hl
      rcases rd_msl h with ⟨a, hx, hs, rfl, rfl⟩ | ⟨b, cap, arr, T, fr, hx, hs, hlc, hb, hcp⟩
      · exact ⟨a, 0, hx, Nat.le_refl _, .inl ⟨rfl, by simp⟩⟩
      · refine ⟨_, cap, hx, hlc.1, .inr ⟨b, off, ((arr.toList.drop off).take (len * sz')), rfl, fun hcl => ?_⟩⟩
        obtain ⟨arr', T', hb', hl', hr⟩ := live_cells H hk hs
        rw [hb] at hb'
        simp only [Option.some.injEq, Obj.cells.injEq] at hb'
        obtain ⟨rfl, rfl, rfl⟩ := hb'
        have hcl' : off + len * sz' ≤ csk.length ∨ len * sz' = 0 := by
          simp only [List.length_take, List.length_drop] at hcl
          omega
        have hsz : off + len * sz' ≤ arr.size := by
          have : len * sz' ≤ cap * sz' := Nat.mul_le_mul_right _ hlc.1
          omega
        refine ⟨by simp; omega, fun j v hv => ?_, by simp at hcl ⊢; omega, fun j h1 h2 => ?_⟩
        · have hj : j < len * sz' := by
            have := (List.getElem?_eq_some_iff.1 hv).1
            simp at this
            omega
          rw [List.getElem?_take_of_lt hj, List.getElem?_drop] at hv
          simpa [World.cell?, hb] using hv
        · have hj : j < len * sz' := by simp at h1; omega
          have hj2 : off + j < csk.length := by omega
          obtain ⟨y, hy, hry⟩ := hr (off + j) hj2
          have e1 : ((arr.toList.drop off).take (len * sz')).toArray[j] = y := by
            obtain ⟨_, e⟩ := Array.getElem?_eq_some_iff.1 hy
            simp [e]
          have e2 : ((csk.drop off).take (len * sz'))[j] = csk[off + j] := by simp
          rw [e1, e2]
          exact hry
    · cases hl
  · simp only [Option.some.injEq, Prod.mk.injEq] at hl
    obtain ⟨rfl, rfl, rfl⟩ := hl
    obtain ⟨h1, _⟩ := rd_scalar h
    exact ⟨none, 0, h1, Nat.le_refl _, .inl ⟨rfl, rfl⟩⟩
  · simp only [Option.some.injEq, Prod.mk.injEq] at hl
    obtain ⟨rfl, rfl, rfl⟩ := hl
    obtain ⟨a, h1⟩ := rd_z h
    exact ⟨a, 0, h1, Nat.le_refl _, .inl ⟨rfl, rfl⟩⟩
  · cases hl

end
end Go.CT
